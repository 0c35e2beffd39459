/- Walk rules within regions that draw their order. -/
import Derived.Test.YtlmighkbeacjnaaGreatDoorLm2
import Derived.RangeFuncRecord
import Derived.Laws.StructEq
import Derived.Below

set_option linter.unusedVariables false
set_option linter.unusedSimpArgs false
set_option linter.unusedSectionVars false
namespace Go.Lg
open Go

theorem evo_congr {tm tm' : Nat → AV} {x : Operand} (h : ∀ t, x = .tmp t → tm' t = tm t) : evo tm' x = evo tm x := by
  cases x with
  | tmp t => simp only [evo, h t rfl]
  | _ => rfl
theorem evs_congr {tm tm' : Nat → AV} : ∀ {l : List Operand}, (∀ t, Operand.tmp t ∈ l → tm' t = tm t) → evs tm' l = evs tm l
  | [], _ => rfl
  | x :: r, h => by
    unfold evs
    rw [evo_congr (x := x) (fun t e => h t (by simp [e])), evs_congr (l := r) (fun t e => h t (by simp [e]))]
theorem evp_congr {tm tm' : Nat → AV} : ∀ {l : List (Nat × Operand)}, (∀ t, Operand.tmp t ∈ l.map (·.2) → tm' t = tm t) → evp tm' l = evp tm l
  | [], _ => rfl
  | (i, x) :: r, h => by
    unfold evp
    rw [evo_congr (x := x) (fun t e => h t (by simp [e])), evp_congr (l := r) (fun t e => h t (by simp at e ⊢; exact .inr e))]
theorem pv_congr {T : TT} {tm tm' : Nat → AV} {op : Op} (h : ∀ t, Operand.tmp t ∈ op.operands.toList → tm' t = tm t) : pv T tm' op = pv T tm op := by
  cases op with
  | move x => exact evo_congr (fun t e => h t (by simp [Op.operands, e]))
  | assign x => exact evo_congr (fun t e => h t (by simp [Op.operands, e]))
  | pick c a b =>
    simp only [pv]
    rw [evo_congr (x := c) (fun t e => h t (by simp [Op.operands, e])), evo_congr (x := a) (fun t e => h t (by simp [Op.operands, e])), evo_congr (x := b) (fun t e => h t (by simp [Op.operands, e]))]
  | binOp op t x y ty =>
    simp only [pv]
    rw [evo_congr (x := x) (fun t e => h t (by simp [Op.operands, e])), evo_congr (x := y) (fun t e => h t (by simp [Op.operands, e]))]
  | unOp op t x => simp only [pv]; rw [evo_congr (x := x) (fun t e => h t (by simp [Op.operands, e]))]
  | convert s d x => simp only [pv]; rw [evo_congr (x := x) (fun t e => h t (by simp [Op.operands, e]))]
  | extract x i => simp only [pv]; rw [evo_congr (x := x) (fun t e => h t (by simp [Op.operands, e]))]
  | field s x f => simp only [pv]; rw [evo_congr (x := x) (fun t e => h t (by simp [Op.operands, e]))]
  | fieldAddr s x f => simp only [pv]; rw [evo_congr (x := x) (fun t e => h t (by simp [Op.operands, e]))]
  | load s x => simp only [pv]; rw [evo_congr (x := x) (fun t e => h t (by simp [Op.operands, e]))]
  | nilCheck x => simp only [pv]; rw [evo_congr (x := x) (fun t e => h t (by simp [Op.operands, e]))]
  | makeInterface s x => simp only [pv]; rw [evo_congr (x := x) (fun t e => h t (by simp [Op.operands, e]))]
  | makeFunc fn a b =>
    simp only [pv]
    rw [evs_congr (l := a.toList) (fun t e => h t (by simp [Op.operands] at e ⊢; exact .inl e)), evs_congr (l := b.toList) (fun t e => h t (by simp [Op.operands] at e ⊢; exact .inr e))]
  | call c =>
    simp only [pv]
    unfold pvCall
    split
    · rename_i x t
      rw [evo_congr (x := x) (fun t e => h t (by simp [Op.operands, Call.operands, e]))]
    · rfl
  | _ => rfl
theorem pvx_congr {T : TT} {tm tm' : Nat → AV} {hp : Heap} {op : Op} (h : ∀ t, Operand.tmp t ∈ op.operands.toList → tm' t = tm t) : pvx T tm' hp op = pvx T tm hp op := by
  cases op with
  | indexAddr s x y =>
    simp only [pvx]
    rw [evo_congr (x := x) (fun t e => h t (by simp [Op.operands, e])), evo_congr (x := y) (fun t e => h t (by simp [Op.operands, e]))]
  | index s x y =>
    simp only [pvx]
    rw [evo_congr (x := x) (fun t e => h t (by simp [Op.operands, e])), evo_congr (x := y) (fun t e => h t (by simp [Op.operands, e]))]
  | load s x => simp only [pvx]; rw [evo_congr (x := x) (fun t e => h t (by simp [Op.operands, e]))]
  | box s x => simp only [pvx]; rw [evo_congr (x := x) (fun t e => h t (by simp [Op.operands, e]))]
  | build s ps => simp only [pvx]; rw [evp_congr (l := ps.toList) (fun t e => h t (by simpa [Op.operands] using e))]
  | _ => rfl

section
variable {P : Program} {B : Fb → Prop} {N m : Nat} {Q : AEx → St → Prop}
theorem does_op {all : List Oper} {o : Oper} {i : Nat} {σ : St} {x : AV} {h' : Heap} {n' : Nat} (ho : all[i]? = some o) (hu : unguarded all o σ.tm true) (hd : ∀ t, o.dst = some t → t < N) (hdf : ∀ c, o.op ≠ .defer c) (hv : OpV P N o σ x h' n') :
    Does P B N m all.toArray i σ ⟨putT σ.tm o.dst x, h', n', σ.df⟩ := by
  intro l Q h K a hm hs
  obtain ⟨v, K', hr, hn, hrel, hst, hvr⟩ := hv K a hs
  have hE := hst.ext hs.rel
  refine mo_value (by simpa using ho) (wanted_of hs.tr hu) hdf hr ?_
  have hs' : SR K' N ⟨putT σ.tm o.dst x, h', n', σ.df⟩ (a.put o.dst v) := ⟨hn, hrel, (hs.tr.mono hE).put hd hvr, by rw [put_defers]; exact hs.dr.mono hE⟩
  exact (h K' _ (Nat.le_trans hm hst.next) hs').mono fun _ _ _ hq => hq.step (hst.stm hm)
theorem does_skip {all : List Oper} {o : Oper} {i : Nat} {σ : St} (ho : all[i]? = some o) (hu : unguarded all o σ.tm false) (hd : ∀ t, o.dst = some t → t < N) : Does P B N m all.toArray i σ ⟨putT σ.tm o.dst (.tuple []), σ.h, σ.n, σ.df⟩ := by
  intro l Q h K a hm hs
  refine mo_skip (by simpa using ho) (wanted_of hs.tr hu) ?_
  have hs' : SR K N ⟨putT σ.tm o.dst (.tuple []), σ.h, σ.n, σ.df⟩ (a.put o.dst undef) := ⟨hs.next, hs.rel, hs.tr.put hd (VR.undef_ K), by rw [put_defers]; exact hs.dr⟩
  exact h K _ hm hs'
theorem does_call {all : List Oper} {o : Oper} {i : Nat} {σ : St} {f : FuncId} {args : List AV} {y : AV} (ho : all[i]? = some o) (hu : unguarded all o σ.tm true) (hd : ∀ t, o.dst = some t → t < N) (hdf : ∀ c, o.op ≠ .defer c) (hc : OpC P N o σ f args) (hp : PF P f args (fun r => r = y)) :
    Does P B N m all.toArray i σ ⟨putT σ.tm o.dst y, σ.h, σ.n, σ.df⟩ := by
  intro l Q h K a hm hs
  obtain ⟨vs, hr, hvs⟩ := hc K a hs
  refine mo_call (by simpa using ho) (wanted_of hs.tr hu) hdf hr (ac_pure hp σ.h σ.n K vs hs.next hs.rel hvs) ?_
  rintro e w2 ⟨K', H', r, rfl, hrel, hst, hrr, rfl, hn, x, rfl, hpu, rfl⟩
  have hE := hst.ext hs.rel
  cases hrr with
  | @ret x v hv =>
    refine .inl ⟨v, rfl, ?_⟩
    have hs' : SR K' N ⟨putT σ.tm o.dst x, σ.h, σ.n, σ.df⟩ (a.put o.dst v) := ⟨hn, hrel, (hs.tr.mono hE).put hd hv, by rw [put_defers]; exact hs.dr.mono hE⟩
    exact (h K' _ (Nat.le_trans hm hst.next) hs').mono fun _ _ _ hq => hq.step (hst.stm hm)

variable {T : TT} {all rest : List Oper} {A : Nat → Heap → Nat → Prop} {k : Nat} {df : List Nat} {bb : Bool} {tm : Nat → AV} {hp hp' : Heap} {n n' : Nat}
  {d : Nat} {op : Op} {ty : TypeId} {pos : String} {af : Array Edge} {j : Nat} {want b : Bool} {x y : AV} {t : Nat}
theorem rd_op {o : Oper} {tm' : Nat → AV} (h : ∀ t, t ∈ rd all o → tm' t = tm t) : ∀ t, Operand.tmp t ∈ o.op.operands.toList → tm' t = tm t :=
  fun t ht => h t (by unfold rd; rw [List.mem_append]; exact .inr (mem_rdOf ht))
theorem rd_guard {o : Oper} {tm' : Nat → AV} (h : ∀ t, t ∈ rd all o → tm' t = tm t) (ho : o.guard = some (j, want)) (hg : gslot all j = some t) : tm' t = tm t :=
  h t (by unfold rd; rw [List.mem_append, ho]; left; simp [hg])
theorem wr_v (hT : TOK P T) (hx : pv T tm op = some x) (hd : d < N) (h : WR P B N m all A Q df bb (k + 1) rest (upd tm d x) hp n) : WR P B N m all A Q df bb k (⟨some d, op, ty, pos, af, none⟩ :: rest) tm hp n :=
  .op (fun tm' h n _ hr i hi => does_op hi (ung_none rfl) (fun _ h => by cases h; exact hd) (fun c h => by
    have h : op = .defer c := h
    rw [h] at hx; cases hx) (pv_sound hT (by rw [← hx]; exact pv_congr (rd_op (o := ⟨some d, op, ty, pos, af, none⟩) hr)))) h
theorem wr_vg (hT : TOK P T) (hg : gslot all j = some t) (ht : tm t = y) (hy : y = .bool want) (hx : pv T tm op = some x) (hd : d < N) (h : WR P B N m all A Q df bb (k + 1) rest (upd tm d x) hp n) : WR P B N m all A Q df bb k (⟨some d, op, ty, pos, af, some (j, want)⟩ :: rest) tm hp n :=
  .op (fun tm' h n _ hr i hi => does_op hi (by
    have := ung_some (o := ⟨some d, op, ty, pos, af, some (j, want)⟩) (tm := tm') rfl hg ((rd_guard (o := ⟨some d, op, ty, pos, af, some (j, want)⟩) hr rfl hg).trans (ht.trans hy)); simpa using this) (fun _ h => by cases h; exact hd) (fun c h => by
    have h : op = .defer c := h
    rw [h] at hx; cases hx) (pv_sound hT (by rw [← hx]; exact pv_congr (rd_op (o := ⟨some d, op, ty, pos, af, some (j, want)⟩) hr)))) h
theorem wr_x (hT : TOK P T) (hx : ∀ h' n', A k h' n' → pvx T tm h' op = some x) (hne : ∀ c, op ≠ .defer c) (hd : d < N) (h : WR P B N m all A Q df bb (k + 1) rest (upd tm d x) hp n) : WR P B N m all A Q df bb k (⟨some d, op, ty, pos, af, none⟩ :: rest) tm hp n :=
  .op (fun tm' h n hA hr i hi => does_op hi (ung_none rfl) (fun _ h => by cases h; exact hd) (fun c h => hne c h) (pvx_sound hT (by rw [← hx h n hA]; exact pvx_congr (rd_op (o := ⟨some d, op, ty, pos, af, none⟩) hr)))) h
theorem wr_xg (hT : TOK P T) (hg : gslot all j = some t) (ht : tm t = y) (hy : y = .bool want) (hx : ∀ h' n', A k h' n' → pvx T tm h' op = some x) (hne : ∀ c, op ≠ .defer c) (hd : d < N) (h : WR P B N m all A Q df bb (k + 1) rest (upd tm d x) hp n) : WR P B N m all A Q df bb k (⟨some d, op, ty, pos, af, some (j, want)⟩ :: rest) tm hp n :=
  .op (fun tm' h n hA hr i hi => does_op hi (by
    have := ung_some (o := ⟨some d, op, ty, pos, af, some (j, want)⟩) (tm := tm') rfl hg ((rd_guard (o := ⟨some d, op, ty, pos, af, some (j, want)⟩) hr rfl hg).trans (ht.trans hy)); simpa using this) (fun _ h => by cases h; exact hd) (fun c h => hne c h) (pvx_sound hT (by rw [← hx h n hA]; exact pvx_congr (rd_op (o := ⟨some d, op, ty, pos, af, some (j, want)⟩) hr)))) h
theorem wr_skip (hg : gslot all j = some t) (ht : tm t = y) (hy : isOff want y = true) (hd : d < N) (h : WR P B N m all A Q df bb (k + 1) rest (upd tm d (.tuple [])) hp n) : WR P B N m all A Q df bb k (⟨some d, op, ty, pos, af, some (j, want)⟩ :: rest) tm hp n :=
  .op (fun tm' h n _ hr i hi => does_skip hi (ung_off (o := ⟨some d, op, ty, pos, af, some (j, want)⟩) (tm := tm') rfl hg ((rd_guard (o := ⟨some d, op, ty, pos, af, some (j, want)⟩) hr rfl hg).trans ht) hy) (fun _ h => by cases h; exact hd)) h
theorem wr_split {o : Option Tmp} (_ : gslot all j = some t) (ht : tm t = .bool b) (h : (b = true → WR P B N m all A Q df bb k (⟨o, op, ty, pos, af, some (j, want)⟩ :: rest) (upd tm t (.bool true)) hp n) ∧ (b = false → WR P B N m all A Q df bb k (⟨o, op, ty, pos, af, some (j, want)⟩ :: rest) (upd tm t (.bool false)) hp n)) :
    WR P B N m all A Q df bb k (⟨o, op, ty, pos, af, some (j, want)⟩ :: rest) tm hp n := by
  cases b with
  | true => have := h.1 rfl; rwa [upd_self ht] at this
  | false => have := h.2 rfl; rwa [upd_self ht] at this
theorem opc_congr {fo : Operand} {args : Array Operand} {ats : Array TypeId} {g : FuncId} {first cap xs : List AV} {o : Oper} {tm' : Nat → AV} {h : Heap} {n : Nat} {df : List Nat} (hop : o.op = .call { callee := .value fo, args := args, argTypes := ats }) (hr : ∀ t, t ∈ rd all o → tm' t = tm t) (hf : evo tm fo = some (.func (.func g) first cap)) (hx : evs tm args.toList = some xs) (hc : Callable P g) :
    OpC P N o ⟨tm', h, n, df⟩ g (first ++ xs ++ cap) := by
  have h1 := rd_op hr
  rw [hop] at h1
  exact opc_call hop (by rw [← hf]; exact evo_congr fun t e => h1 t (by simp [Op.operands, Call.operands, e])) (by rw [← hx]; exact evs_congr fun t e => h1 t (by simp [Op.operands, Call.operands] at e ⊢; exact .inr e)) hc (Subs.refl _)
theorem wr_call {fo : Operand} {args : Array Operand} {ats : Array TypeId} {g : FuncId} {first cap xs as : List AV} (hf : evo tm fo = some (.func (.func g) first cap)) (hx : evs tm args.toList = some xs) (ha : first ++ xs ++ cap = as) (hpf : PF P g as (fun r => r = y)) (hd : d < N)
    (h : WR P B N m all A Q df bb (k + 1) rest (upd tm d y) hp n) : WR P B N m all A Q df bb k (⟨some d, .call { callee := .value fo, args := args, argTypes := ats }, ty, pos, af, none⟩ :: rest) tm hp n := by
  subst ha
  exact .op (fun tm' h n _ hr i hi => does_call hi (ung_none rfl) (fun _ h => by cases h; exact hd) (fun c h => by cases h) (opc_congr rfl hr hf hx hpf.cal) hpf) h
theorem wr_callg {z : AV} {fo : Operand} {args : Array Operand} {ats : Array TypeId} {g : FuncId} {first cap xs as : List AV} (hg : gslot all j = some t) (ht : tm t = z) (hy : z = .bool want) (hf : evo tm fo = some (.func (.func g) first cap)) (hx : evs tm args.toList = some xs) (ha : first ++ xs ++ cap = as) (hpf : PF P g as (fun r => r = y)) (hd : d < N)
    (h : WR P B N m all A Q df bb (k + 1) rest (upd tm d y) hp n) : WR P B N m all A Q df bb k (⟨some d, .call { callee := .value fo, args := args, argTypes := ats }, ty, pos, af, some (j, want)⟩ :: rest) tm hp n := by
  subst ha
  exact .op (fun tm' h n _ hr i hi => does_call hi (by
    have := ung_some (o := ⟨some d, .call { callee := .value fo, args := args, argTypes := ats }, ty, pos, af, some (j, want)⟩) (tm := tm') rfl hg ((rd_guard (o := ⟨some d, .call { callee := .value fo, args := args, argTypes := ats }, ty, pos, af, some (j, want)⟩) hr rfl hg).trans (ht.trans hy)); simpa using this) (fun _ h => by cases h; exact hd) (fun c h => by cases h) (opc_congr rfl hr hf hx hpf.cal) hpf) h
/-- A store: the region's one change. -/
theorem wr_store {a c : Operand} {u v : AV} (hT : TOK P T) (hu : evo tm a = some u) (hv : evo tm c = some v) (hs : hvStore T hp t u v = some hp') (hA : ∀ j, (must all 3 k j = false → A j hp n) ∧ (must all 3 j k = false → A j hp' n)) (h : WR P B N m all A Q df true (k + 1) rest tm hp' n) : WR P B N m all A Q df false k (⟨none, .store t a c, ty, pos, af, none⟩ :: rest) tm hp n := by
  unfold hvStore at hs
  split at hs
  · rename_i i id off ht
    split at hs
    · rename_i cs e hH
      split at hs
      · rename_i h1
        split at hs
        · rename_i h2
          split at hs
          · rename_i h3
            cases hs
            refine .eff (x := .tuple []) (fun tm' hr i hi => does_op (x := .tuple []) hi (ung_none rfl) (fun _ h => by cases h) (fun c h => by cases h) (opv_store hT rfl ?_ ?_ hH ht h1 h2 (by simpa [List.all_eq_true] using h3))) hA h
            · rw [← hu]; exact evo_congr fun t e => rd_op hr t (by simp [Op.operands, e])
            · rw [← hv]; exact evo_congr fun t e => rd_op hr t (by simp [Op.operands, e])
          · cases hs
        · cases hs
      · cases hs
    · cases hs
  · cases hs
end
/-! calls with the arguments' list found first -/
section
variable {P : Program} {B : Fb → Prop} {N m : Nat} {all rest : List Oper} {Q : AEx → St → Prop} {tm : Nat → AV} {hp : Heap} {n : Nat} {df : List Nat} {d : Nat} {ty : TypeId} {pos : String} {af : Array Edge} {j : Nat} {want : Bool} {y z : AV} {t : Nat}
theorem wcall' {fo : Operand} {args : Array Operand} {ats : Array TypeId} {g : FuncId} {first cap xs as : List AV} (hf : evo tm fo = some (.func (.func g) first cap)) (hx : evs tm args.toList = some xs) (ha : first ++ xs ++ cap = as) (hpf : PF P g as (fun r => r = y)) (hd : d < N)
    (h : WL P B N m all rest Q ⟨upd tm d y, hp, n, df⟩) : WL P B N m all (⟨some d, .call { callee := .value fo, args := args, argTypes := ats }, ty, pos, af, none⟩ :: rest) Q ⟨tm, hp, n, df⟩ :=
  wcall hf hx (by rw [ha]; exact hpf) hd (fun x hx _ => by cases hx; exact h)
theorem wcallg' {fo : Operand} {args : Array Operand} {ats : Array TypeId} {g : FuncId} {first cap xs as : List AV} (hg : gslot all j = some t) (ht : tm t = z) (hy : z = .bool want) (hf : evo tm fo = some (.func (.func g) first cap)) (hx : evs tm args.toList = some xs) (ha : first ++ xs ++ cap = as) (hpf : PF P g as (fun r => r = y)) (hd : d < N)
    (h : WL P B N m all rest Q ⟨upd tm d y, hp, n, df⟩) : WL P B N m all (⟨some d, .call { callee := .value fo, args := args, argTypes := ats }, ty, pos, af, some (j, want)⟩ :: rest) Q ⟨tm, hp, n, df⟩ :=
  wcallg hg ht hy hf hx (by rw [ha]; exact hpf) hd (fun x hx _ => by cases hx; exact h)
end
end Go.Lg

/- Drawn regions that leave own memory alone. -/
set_option linter.unusedVariables false
set_option linter.unusedSimpArgs false
set_option linter.unusedSectionVars false
namespace Go.Lg
open Go
def AtH (h0 : Heap) (n0 : Nat) : Nat → Heap → Nat → Prop := fun _ h n => h = h0 ∧ n = n0
section
variable {P : Program} {B : Fb → Prop} {N m : Nat} {Q : AEx → St → Prop} {T : TT} {all rest : List Oper} {df : List Nat} {bb : Bool} {k : Nat} {tm : Nat → AV} {hp : Heap} {n : Nat}
  {d : Nat} {op : Op} {ty : TypeId} {pos : String} {af : Array Edge} {j : Nat} {want b : Bool} {x y : AV} {t : Nat}
theorem w_draw0 {id : Nat} {ops : Array Oper} (hmx : P.follows .mixedOrders = true) (hd : drawOk ops.toList = true) (hw : WR P B N m ops.toList (AtH hp n) Q df false 0 ops.toList tm hp n) : W P B N m (.region id ops true) Q ⟨tm, hp, n, df⟩ :=
  w_draw hmx hd hw
theorem wr_x0 (hT : TOK P T) (hx : pvx T tm hp op = some x) (hd : d < N) (h : WR P B N m all (AtH hp n) Q df bb (k + 1) rest (upd tm d x) hp n) : WR P B N m all (AtH hp n) Q df bb k (⟨some d, op, ty, pos, af, none⟩ :: rest) tm hp n :=
  wr_x hT (fun h' n' ⟨e, _⟩ => by rw [e]; exact hx) (fun c h => by rw [h] at hx; cases hx) hd h
theorem wr_xg0 (hT : TOK P T) (hg : gslot all j = some t) (ht : tm t = y) (hy : y = .bool want) (hx : pvx T tm hp op = some x) (hd : d < N) (h : WR P B N m all (AtH hp n) Q df bb (k + 1) rest (upd tm d x) hp n) : WR P B N m all (AtH hp n) Q df bb k (⟨some d, op, ty, pos, af, some (j, want)⟩ :: rest) tm hp n :=
  wr_xg hT hg ht hy (fun h' n' ⟨e, _⟩ => by rw [e]; exact hx) (fun c h => by rw [h] at hx; cases hx) hd h
theorem wr_nil (h : Q .normal ⟨tm, hp, n, df⟩) : WR P B N m all (AtH hp n) Q df bb k [] tm hp n := .nil (fun _ _ => ⟨rfl, rfl⟩) h
end

theorem pur_bool (b : Bool) : Pur (.bool b) ↔ True := ⟨fun _ => trivial, fun _ => .bool b⟩
theorem pur_int (k : IntKind) (n : Int) : Pur (.int k n) ↔ True := ⟨fun _ => trivial, fun _ => .int k n⟩
theorem pur_str (s : List UInt8) : Pur (.str s) ↔ True := ⟨fun _ => trivial, fun _ => .str s⟩
theorem pur_empty : Pur .empty ↔ True := ⟨fun _ => trivial, fun _ => .empty⟩
theorem pur_nilptr : Pur .nilptr ↔ True := ⟨fun _ => trivial, fun _ => .nilptr⟩
theorem pur_nilFunc : Pur .nilFunc ↔ True := ⟨fun _ => trivial, fun _ => .nilFunc⟩
theorem pur_nilIface : Pur .nilIface ↔ True := ⟨fun _ => trivial, fun _ => .nilIface⟩
theorem pur_any : Pur .any ↔ True := ⟨fun _ => trivial, fun _ => .any⟩
theorem pur_agg (cs : List AV) : Pur (.agg cs) ↔ ∀ x, x ∈ cs → Pur x := ⟨fun h => by cases h; assumption, .agg⟩
theorem pur_tuple (cs : List AV) : Pur (.tuple cs) ↔ ∀ x, x ∈ cs → Pur x := ⟨fun h => by cases h; assumption, .tuple⟩
theorem pur_vptr (cs : List AV) : Pur (.vptr cs) ↔ ∀ x, x ∈ cs → Pur x := ⟨fun h => by cases h; assumption, .vptr⟩
theorem pur_view (rows : List (List AV)) : Pur (.view rows) ↔ ∀ r, r ∈ rows → ∀ x, x ∈ r → Pur x := ⟨fun h => by cases h; assumption, .view⟩
theorem pur_iface (t : TypeId) (x : AV) : Pur (.iface t x) ↔ Pur x := ⟨fun h => by cases h; assumption, .iface⟩
theorem pur_func (fn : Fn) (a b : List AV) : Pur (.func fn a b) ↔ (∀ x, x ∈ a → Pur x) ∧ ∀ x, x ∈ b → Pur x := ⟨fun h => by cases h; constructor <;> assumption, fun h => .func h.1 h.2⟩
end Go.Lg

/- Ranges over functions: the machine's steps, rounds, yield, marks. -/
set_option linter.unusedVariables false
set_option linter.unusedSimpArgs false
set_option linter.unusedSectionVars false
namespace Go.Lg
open Go

section moves
variable {P : Program} {b : Fb} {a : Act} {k : List Item} {cs : List Frame} {w : World}
theorem st_collected {fr : Frame} {blk : Nat} {ds : List Deferred} (hm : fr.mode ≠ .run) (hd : fr.defers = { target := .collected blk, args := #[] } :: ds) (hb : w.heap[blk]? = some (.deferred (some []))) :
    step P (lone fr cs w) = .next (lone { fr with defers := ds } cs (w.putObj blk (.deferred none))) :=
  step_lone_go (by
    cases h : fr.mode with
    | run => exact absurd h hm
    | returning => simp [stepG, unwind, h, hd, Sem.runT_eq, run_takeDeferred hb]
    | panicking ch => simp [stepG, unwind, h, hd, Sem.runT_eq, run_takeDeferred hb])
theorem st_range {f : Operand} {ps : Array Tmp} {as bd : Code} {g : FuncId} {first cap : Array Value} (hb : b.round = none) (hf : a.eval f = .func (.func g) first cap) (hc : Callable P g) :
    step P (lone (b.fr a (.code (.rangeFunc f ps as bd) :: k)) cs w) =
      .next (lone (Frame.enter P g ((first ++ #[.func (.yield (w.heap.size + 1)) #[] #[]]) ++ cap) .normal)
        (b.fr { a with defers := { target := .collected w.heap.size, args := #[] } :: a.defers } (.inRangeFunc (w.heap.size + 1) :: k) :: cs)
        ((w.alloc (.deferred (some []))).alloc (.loop { state := .ready, pending := none, fn := b.fn, tmps := a.tmps, params := ps, assign := as, body := bd, defers := w.heap.size }))) := by
  refine step_lone_go ?_
  have hcf := callFunc_run hc ((first ++ #[.func (.yield (w.heap.size + 1)) #[] #[]]) ++ cap) ((w.alloc (.deferred (some []))).alloc (.loop { state := .ready, pending := none, fn := b.fn, tmps := a.tmps, params := ps, assign := as, body := bd, defers := w.heap.size }))
  have he : ∀ todo ds, ({ fn := b.fn, tmps := a.tmps, todo := todo, defers := ds, mode := .run, kind := b.kind, roundOf := none } : Frame).eval f = .func (.func g) first cap := by
    intro todo ds
    rw [← hf]
    cases f <;> rfl
  have hc2 : ∀ todo ds t, ({ fn := b.fn, tmps := a.tmps, todo := todo, defers := ds, mode := .run, kind := b.kind, roundOf := none } : Frame).eval (.const t) = t := fun _ _ _ => rfl
  simp only [stepG, stepG.exec, Fb.fr, hb, Sem.runT_eq, run_enterLoop_outer]
  simp only [stepG.apply, List.cons_append, List.nil_append]
  have hrun : ∀ todo ds, (resolve ({ fn := b.fn, tmps := a.tmps, todo := todo, defers := ds, mode := .run, kind := b.kind, roundOf := none } : Frame).eval { callee := .value f, args := #[.const (.func (.yield (w.heap.size + 1)) #[] #[])], argTypes := #[] } 0 >>= fun d => invoke d.target d.args : Sem Next).run P ((w.alloc (.deferred (some []))).alloc (.loop { state := .ready, pending := none, fn := b.fn, tmps := a.tmps, params := ps, assign := as, body := bd, defers := w.heap.size })) =
      .ok (.enter g ((first ++ #[.func (.yield (w.heap.size + 1)) #[] #[]]) ++ cap)) ((w.alloc (.deferred (some []))).alloc (.loop { state := .ready, pending := none, fn := b.fn, tmps := a.tmps, params := ps, assign := as, body := bd, defers := w.heap.size })) := by
    intro todo ds
    have hres : ∀ w', (resolve ({ fn := b.fn, tmps := a.tmps, todo := todo, defers := ds, mode := .run, kind := b.kind, roundOf := none } : Frame).eval { callee := .value f, args := #[.const (.func (.yield (w.heap.size + 1)) #[] #[])], argTypes := #[] } 0).run P w' = .ok { target := .fn (.func g) cap, args := first ++ #[.func (.yield (w.heap.size + 1)) #[] #[]] } w' := by
      intro w'
      unfold resolve
      simp only [he, Deferred.ofValue, List.map_toArray, List.map_cons, List.map_nil, hc2]
      rfl
    rw [run_bindv (hres _)]
    unfold invoke
    exact hcf
  simp [Sem.runT_eq, hrun]
theorem st_endRange {l : Nat} {r : Loop} (h : w.heap[l]? = some (.loop r)) (hs : r.state ≠ .busy) :
    step P (lone (b.fr a (.endRangeFunc l :: k)) cs w) = .next (lone (b.fr a ((r.pending.map Item.code).toList ++ k)) cs (w.putObj l (.loop { r with state := .exhausted }))) :=
  step_lone_go (by simp [stepG, stepG.exec, Fb.fr, Sem.runT_eq, run_endLoop h hs])
theorem fin_range {l : Nat} (v : Value) : (b.fr a (.inRangeFunc l :: k)).finish v = b.fr a (.endRangeFunc l :: k) := by simp [Frame.finish, Fb.fr]
theorem st_beginRound {l : Nat} {r : Loop} (hb : b.round = some l) (h : w.heap[l]? = some (.loop r)) (hs : r.state = .ready) :
    step P (lone (b.fr a (.beginRound :: k)) cs w) = .next (lone (b.fr a k) cs (w.putObj l (.loop { r with state := .busy }))) :=
  step_lone_go (by simp [stepG, stepG.exec, stepG.apply, Fb.fr, hb, Sem.runT_eq, run_beginRound h hs, Result.andThen, Frame.finish])
variable {c : Frame} {l : Nat} {r : Loop}
theorem st_round_end (hb : b.round = some l) (hk : b.kind = .normal) (h : w.heap[l]? = some (.loop r)) :
    step P (lone (b.fr a []) (c :: cs) w) = .next (lone (c.finish (.bool true)) cs (w.putObj l (.loop { r with state := .ready, pending := none }))) :=
  step_lone_go (by have := run_endRound (P := P) none h; simp at this; simp [stepG, stepG.exec, Fb.fr, hb, hk, Sem.runT_eq, this, doReturn])
theorem st_round_ret (hb : b.round = some l) (hk : b.kind = .normal) (h : w.heap[l]? = some (.loop r)) :
    step P (lone (b.fr a (.code .ret :: k)) (c :: cs) w) = .next (lone (c.finish (.bool false)) cs (w.putObj l (.loop { r with state := .done, pending := some .ret }))) :=
  step_lone_go (by have := run_endRound (P := P) (some .ret) h; simp at this; simp [stepG, stepG.exec, Fb.fr, hb, hk, Sem.runT_eq, this, doReturn])
theorem st_round_exit {id : Nat} (hb : b.round = some l) (hk : b.kind = .normal) (hx : exitTo id k = none) (h : w.heap[l]? = some (.loop r)) :
    step P (lone (b.fr a (.code (.exit id) :: k)) (c :: cs) w) = .next (lone (c.finish (.bool false)) cs (w.putObj l (.loop { r with state := .done, pending := some (.exit id) }))) :=
  step_lone_go (by have := run_endRound (P := P) (some (.exit id)) h; simp at this; simp [stepG, stepG.exec, Fb.fr, hb, hk, hx, Sem.runT_eq, this, doReturn])
end moves

/-! a block given up as it is written -/
theorem wrote_drop {K : Ctx} {H : Heap} (hr : Rel K H) {w' : World} {id : Nat} (hid : H id ≠ none) (hw : Wrote K.w w' (K.base id)) : Rel (K.at_ w') (upd H id none) ∧ Step K H (K.at_ w') (upd H id none) := by
  have hE := wrote_ext hr hid hw
  have hold : ∀ j, upd H id none j ≠ none → j ≠ id ∧ H j ≠ none := fun j h => by
    by_cases e : j = id
    · subst e; rw [upd_same] at h; exact absurd rfl h
    · rw [upd_ne _ _ e] at h; exact ⟨e, h⟩
  refine ⟨⟨fun j h => hr.lt j (hold j h).2, fun j h => hr.nro j (hold j h).2, fun j b h => ?_, fun i j hi hj e => hr.inj i j (hold i hi).2 (hold j hj).2 e, fun b h => ?_⟩, ⟨Nat.le_refl _, fun _ _ => ⟨rfl, rfl, rfl⟩, fun _ h => h, ?_, fun b _ hn => hw.same b (fun e => hn ⟨id, hid, e.symm⟩), ?_, fun _ h => .inl h, hw.os, hw.tape, hw.output⟩⟩
  · have hj := hold j (by rw [h]; simp)
    rw [upd_ne _ _ hj.1] at h
    exact (hr.br j b h).mono hE (hr.lt j hj.2) (hw.same _ (fun e' => hj.1 (hr.inj j id hj.2 hid e')))
  · show b < w'.heap.size; rw [hw.size]; exact hr.ros b h
  · show _ ≤ w'.heap.size; rw [hw.size]; exact Nat.le_refl _
  · rintro b ⟨j, hj, rfl⟩
    exact .inl ⟨j, (hold j hj).2, rfl⟩
theorem wrote_put (w : World) (l : Nat) (o : Obj) : Wrote w (w.putObj l o) l :=
  ⟨by simp, fun b hb => World.putObj_heap_other hb, rfl, rfl, rfl⟩

/-! marks -/
def Marks : Heap → List Nat → Prop
  | _, [] => True
  | H, id :: r => H id = some .deferred ∧ Marks (upd H id none) r
def killAll : Heap → List Nat → Heap
  | H, [] => H
  | H, id :: r => killAll (upd H id none) r
theorem unwinds {P : Program} {cs : List Frame} (dt : List Deferred) : ∀ (df : List Nat) (K : Ctx) (H : Heap) (fr : Frame) (ds0 : List Deferred), fr.mode ≠ .run → Rel K H → fr.defers = ds0 ++ dt → DR K H df ds0 → Marks H df →
    ∃ w', Steps P (lone fr cs K.w) (lone { fr with defers := dt } cs w') ∧ Rel (K.at_ w') (killAll H df) ∧ Step K H (K.at_ w') (killAll H df)
  | [], K, H, fr, ds0, hm, hr, hd, hdr, _ => ⟨K.w, by have h0 : ds0 = [] := hdr; subst h0; cases fr; simp only [List.nil_append] at hd; subst hd; exact .refl _ _, hr, .refl _ _⟩
  | id :: df, K, H, fr, ds0, hm, hr, hd, ⟨ds, hd0, hlt, hds⟩, ⟨hid, hmk⟩ => by
    have hb : K.w.heap[K.base id]? = some (.deferred (some [])) := hr.br id _ hid
    have hne : H id ≠ none := by rw [hid]; simp
    have hw := wrote_put K.w (K.base id) (.deferred none)
    obtain ⟨k1, k2⟩ := wrote_drop hr hne hw
    have hE := wrote_ext hr hne hw
    subst hd0
    obtain ⟨w', h1, h2, h3⟩ := unwinds dt df (K.at_ (K.w.putObj (K.base id) (.deferred none))) (upd H id none) { fr with defers := ds ++ dt } ds hm k1 rfl (hds.mono hE) hmk
    exact ⟨w', .head (st_collected hm hd hb) h1, h2, k2.trans h3⟩
def DoneD (P : Program) (fn : Func) (Q : AR → Heap → Nat → Prop) : AEx → St → Prop
  | .normal, σ | .ret, σ => Marks σ.h σ.df ∧ ∃ x, ResV P fn.ntmps fn ⟨σ.tm, killAll σ.h σ.df, σ.n, []⟩ x ∧ Q (.ret x) (killAll σ.h σ.df) σ.n
  | _, _ => False
theorem enter_ok {P : Program} {f : FuncId} {fn : Func} {c : Code} {args : List AV} {K : Ctx} {vs : Array Value} (hf : P.funcs[f]? = some fn) (hb : fn.body = some c) (hN : args.length ≤ fn.ntmps) (hvs : VRs K args vs.toList) :
    ∃ a : Act, a.defers = [] ∧ Frame.enter P f vs .normal = (⟨f, .normal, none, []⟩ : Fb).fr a [.code c] ∧ TR K fn.ntmps (args0 args) a.tmps := by
  have hz : vs.size = args.length := by simpa using hvs.1
  refine ⟨{ tmps := vs ++ Array.replicate (fn.ntmps - vs.size) undef, defers := [] }, rfl, by simp [Frame.enter, Fb.fr, hf, hb], by simp; omega, fun t => ?_⟩
  simp only [args0, Array.getD_eq_getD_getElem?, Array.getElem?_append, Array.getElem?_replicate]
  by_cases ht : t < vs.size
  · simp only [ht, if_true]
    have hx : args[t]? = some (args[t]'(by omega)) := List.getElem?_eq_getElem (by omega)
    have hv : vs.toList[t]? = some vs[t] := by simp [ht]
    have := hvs.2 t _ _ hx hv
    simpa [hx, ht] using this
  · simp only [ht, if_false]
    have hx : args[t]? = none := List.getElem?_eq_none (by omega)
    have h2 : (if t - vs.size < fn.ntmps - vs.size then some undef else none : Option Value).getD undef = undef := by split <;> rfl
    rw [h2]
    simp [hx]
    exact VR.undef_ K
theorem ac_of_wd {P : Program} {f : FuncId} {fn : Func} {c : Code} {args : List AV} {H : Heap} {n : Nat} {Q : AR → Heap → Nat → Prop}
    (hf : P.funcs[f]? = some fn) (hb : fn.body = some c) (hN : args.length ≤ fn.ntmps) (h : W P Plain fn.ntmps n c (DoneD P fn Q) ⟨args0 args, H, n, []⟩) : AC P f args H n Q := by
  intro K vs hn hrel hvs cs
  obtain ⟨a, had, henter, htr⟩ := enter_ok hf hb hN hvs
  have hs : SR K fn.ntmps ⟨args0 args, H, n, []⟩ a := ⟨hn, hrel, htr, had⟩
  obtain ⟨e, a', w', ⟨K', σ', e', hw, hs', hst, he, hq⟩, harr⟩ := h K a (Nat.le_of_eq hn.symm) hs ⟨f, .normal, none, []⟩ rfl [] cs
  have hst : Step K H K' σ'.h := (hn ▸ hst : StM K.next K H K' σ'.h).step
  subst hw
  rw [← henter] at harr
  have key : ∀ k1, Marks σ'.h σ'.df → (∃ x, ResV P fn.ntmps fn ⟨σ'.tm, killAll σ'.h σ'.df, σ'.n, []⟩ x ∧ Q (.ret x) (killAll σ'.h σ'.df) σ'.n) → Steps P (lone (Frame.enter P f vs .normal) cs K.w) (lone { (⟨f, .normal, none, []⟩ : Fb).fr a' k1 with mode := .returning } cs K'.w) →
      ∃ e w' fr, (∃ K' H' r, K'.w = w' ∧ Rel K' H' ∧ Step K H K' H' ∧ RR K' r e ∧ Q r H' K'.next) ∧ Comes P (lone (Frame.enter P f vs .normal) cs K.w) (lone fr cs w') e ∧ fr.fn = f ∧ fr.leaving P w' e := by
    intro k1 hmk ⟨x, hx, hQ⟩ hsteps
    obtain ⟨w2, h1, h2, h3⟩ := unwinds (P := P) (cs := cs) [] σ'.df K' σ'.h { (⟨f, .normal, none, []⟩ : Fb).fr a' k1 with mode := .returning } a'.defers (fun h => by cases h) hs'.rel rfl hs'.dr hmk
    have hE := h3.ext hs'.rel
    have hs2 : SR (K'.at_ w2) fn.ntmps ⟨σ'.tm, killAll σ'.h σ'.df, σ'.n, []⟩ { a' with defers := [] } := ⟨hs'.next, h2, hs'.tr.mono hE, rfl⟩
    obtain ⟨v, hr, hv⟩ := hx _ _ hs2
    exact ⟨.returned v, w2, _, ⟨K'.at_ w2, _, .ret x, rfl, h2, hst.trans h3, .ret hv, by have : (K'.at_ w2).next = σ'.n := hs'.next; rw [this]; exact hQ⟩, Steps.trans hsteps h1, rfl, rfl, rfl, rfl, fn, hf, hr⟩
  cases he with
  | normal => exact key [] hq.1 hq.2 (Steps.trans harr (.one (st_end rfl)))
  | ret => obtain ⟨k1, harr⟩ := harr; exact key _ hq.1 hq.2 (Steps.trans harr (.one (st_ret rfl)))
  | panic => exact hq.elim
  | exit i => exact hq.elim
  | goto i => exact hq.elim
end Go.Lg

/- Ranges over functions: the rules. -/
set_option linter.unusedVariables false
set_option linter.unusedSimpArgs false
set_option linter.unusedSectionVars false
namespace Go.Lg
open Go

/-- A frame that is a round. -/
def Round : Fb → Prop := fun b => b.kind = .normal ∧ ∃ l, b.round = some l
/-- What a call of a loop's yield comes to. -/
def YC (P : Program) (id : Nat) (args : List AV) (H : Heap) (n : Nat) (R : Bool → Heap → Nat → Prop) : Prop :=
  ∀ K vs, K.next = n → Rel K H → VRs K args vs.toList → ∃ f tmps as bd, (Instr.yield (K.base id) vs).run P K.w = .ok (.round (K.base id) f tmps as bd) K.w ∧
    ∀ c cs, ∃ b K' H', Rel K' H' ∧ Step K H K' H' ∧ R b H' K'.next ∧ Steps P (lone (Frame.round (K.base id) f tmps as bd .normal) (c :: cs) K.w) (lone (c.finish (.bool b)) cs K'.w)
theorem YC.mono {P : Program} {id : Nat} {args : List AV} {H : Heap} {n : Nat} {R R' : Bool → Heap → Nat → Prop} (h : YC P id args H n R) (hr : ∀ b H n, R b H n → R' b H n) : YC P id args H n R' := by
  intro K vs h1 h2 h3
  obtain ⟨f, tmps, as, bd, hy, h⟩ := h K vs h1 h2 h3
  refine ⟨f, tmps, as, bd, hy, fun c cs => ?_⟩
  obtain ⟨b, K', H', g1, g2, g3, g4⟩ := h c cs
  exact ⟨b, K', H', g1, g2, hr _ _ _ g3, g4⟩

/-- Parameters into slots. -/
def setPs (tm : Nat → AV) : List (Tmp × AV) → (Nat → AV)
  | [] => tm
  | (t, x) :: r => setPs (upd tm t x) r
theorem TR.setPs {K : Ctx} {N : Nat} : ∀ (ps : List (Tmp × AV)) (qs : List (Tmp × Value)) (tm : Nat → AV) (tmps : Array Value), TR K N tm tmps → ps.map (·.1) = qs.map (·.1) → VRs K (ps.map (·.2)) (qs.map (·.2)) → (∀ p, p ∈ ps → p.1 < N) →
    TR K N (Lg.setPs tm ps) (qs.foldl (fun tmps p => tmps.setIfInBounds p.1 p.2) tmps)
  | [], [], tm, tmps, h, _, _, _ => h
  | [], _ :: _, _, _, _, e, _, _ => by cases e
  | _ :: _, [], _, _, _, e, _, _ => by cases e
  | (t, x) :: ps, (t', v) :: qs, tm, tmps, h, e, hv, hn => by
    simp only [List.map_cons, List.cons.injEq] at e hv
    obtain ⟨rfl, e⟩ := e
    unfold Lg.setPs
    rw [List.foldl_cons]
    refine TR.setPs ps qs _ _ ?_ e hv.tail (fun p hp => hn p (List.mem_cons_of_mem _ hp))
    have := (TR.put (a := ⟨tmps, []⟩) (d := some t) h (fun s hs => by cases hs; exact hn (t, x) (by simp)) hv.head)
    exact this

def LoopB.st (lb : LoopB) (s : LoopState) (p : Option Code) : LoopB := { lb with state := s, pending := p }
/-- How a round ends. -/
def RQ (id : Nat) (lb : LoopB) (R : Bool → Heap → Nat → Prop) (e : AEx) (σ : St) : Prop :=
  σ.df = [] ∧ σ.h id = some (.loop (lb.st .busy lb.pending)) ∧ match e with
    | .normal => R true (upd σ.h id (some (.loop (lb.st .ready none)))) σ.n
    | .ret => R false (upd σ.h id (some (.loop (lb.st .done (some .ret))))) σ.n
    | .exit i => R false (upd σ.h id (some (.loop (lb.st .done (some (.exit i)))))) σ.n
    | _ => False
theorem loop_put {K : Ctx} {H : Heap} (hr : Rel K H) {id : Nat} {lb : LoopB} (hH : H id = some (.loop lb)) :
    ∃ r : Loop, K.w.heap[K.base id]? = some (.loop r) ∧ r.state = lb.state ∧ r.pending = lb.pending ∧ r.params = lb.params ∧ r.assign = lb.assign ∧ r.body = lb.body ∧ TR K lb.N lb.tm r.tmps ∧
      ∀ s p, Rel (K.at_ (K.w.putObj (K.base id) (.loop { r with state := s, pending := p }))) (upd H id (some (.loop (lb.st s p)))) ∧ Step K H (K.at_ (K.w.putObj (K.base id) (.loop { r with state := s, pending := p }))) (upd H id (some (.loop (lb.st s p)))) ∧
        Ext K (K.at_ (K.w.putObj (K.base id) (.loop { r with state := s, pending := p }))) := by
  have hid : H id ≠ none := by rw [hH]; simp
  obtain ⟨fn, tmps, defers, ha, ht⟩ := hr.br id _ hH
  refine ⟨_, ha, rfl, rfl, rfl, rfl, rfl, ht, fun s p => ?_⟩
  have hw := wrote_put K.w (K.base id) (.loop { state := s, pending := p, fn, tmps, params := lb.params, assign := lb.assign, body := lb.body, defers })
  have hE := wrote_ext hr hid hw
  obtain ⟨k1, k2⟩ := wrote_ok (b := .loop (lb.st s p)) hr hid hw ⟨fn, tmps, defers, World.putObj_heap_same (Array.getElem?_eq_some_iff.1 ha).1, ht.mono hE⟩
  exact ⟨k1, k2, hE⟩
/-- A round, by its code. -/
theorem yc_of_w {P : Program} {id : Nat} {args : List AV} {H : Heap} {n : Nat} {R : Bool → Heap → Nat → Prop} {lb : LoopB} (hH : H id = some (.loop lb)) (hs : lb.state = .ready) (ha : args.length = lb.params.size) (hp : ∀ t, t ∈ lb.params.toList → t < lb.N)
    (h : W P Round lb.N n lb.assign (fun e σ => e = .normal ∧ σ.df = [] ∧ σ.h id = some (.loop lb) ∧ W P Round lb.N n lb.body (RQ id lb R) ⟨σ.tm, upd σ.h id (some (.loop (lb.st .busy lb.pending))), σ.n, []⟩) ⟨setPs lb.tm (lb.params.toList.zip args), H, n, []⟩) : YC P id args H n R := by
  intro K vs hn hr hvs
  subst hn
  obtain ⟨r, g1, g2, g3, g4, g5, g6, g7, _⟩ := loop_put hr hH
  have hvl : vs.size = r.params.size := by rw [g4, ← ha]; simpa using hvs.1
  refine ⟨r.fn, _, r.assign, r.body, run_yield g1 hvl, fun c cs => ?_⟩
  let b : Fb := ⟨r.fn, .normal, some (K.base id), []⟩
  let a : Act := ⟨(r.params.zip vs).foldl (fun tmps (x : Tmp × Value) => tmps.setIfInBounds x.1 x.2) r.tmps, []⟩
  have htr : TR K lb.N (setPs lb.tm (lb.params.toList.zip args)) a.tmps := by
    have hz : (r.params.zip vs).toList = lb.params.toList.zip vs.toList := by rw [← g4]; simp
    have := TR.setPs (lb.params.toList.zip args) (lb.params.toList.zip vs.toList) _ _ g7 (by
      rw [List.map_fst_zip (by simp [ha]), List.map_fst_zip (by rw [hvs.1, ha]; simp)]) (by
      rw [List.map_snd_zip (by rw [ha]; simp), List.map_snd_zip (by rw [hvs.1, ha]; simp)]; exact hvs) (fun p hp' => hp _ (List.of_mem_zip (a := p.1) (b := p.2) hp').1)
    show TR K lb.N _ ((r.params.zip vs).foldl _ r.tmps)
    rw [← Array.foldl_toList, hz]
    exact this
  have hsr : SR K lb.N ⟨setPs lb.tm (lb.params.toList.zip args), H, K.next, []⟩ a := ⟨rfl, hr, htr, rfl⟩
  obtain ⟨e, a1, w1, ⟨K1, σ1, e1, rfl, hs1, hst1, he1, rfl, hd1, hl1, hbody⟩, harr⟩ := h K a (Nat.le_refl _) hsr b ⟨rfl, _, rfl⟩ [.beginRound, .code r.body] (c :: cs)
  rw [g5] at *
  cases he1
  have hbase1 : K1.base id = K.base id := (hst1.mu id (hr.lt id (by rw [hH]; simp))).1
  obtain ⟨r1, k1, k2, k3, k4, k5, k6, k7, k8⟩ := loop_put hs1.rel hl1
  have hbegin : step P (lone (b.fr a1 [.beginRound, .code r.body]) (c :: cs) K1.w) = .next (lone (b.fr a1 [.code r.body]) (c :: cs) (K1.w.putObj (K1.base id) (.loop { r1 with state := .busy }))) := by
    have := st_beginRound (P := P) (b := b) (a := a1) (k := [.code r.body]) (cs := c :: cs) (w := K1.w) (l := K.base id) (r := r1) rfl (by rw [← hbase1]; exact k1) (k2.trans hs)
    rw [hbase1]; exact this
  obtain ⟨q1, q2, q3⟩ := k8 .busy lb.pending
  have hpend : ({ r1 with state := .busy, pending := lb.pending } : Loop) = { r1 with state := .busy } := by rw [← k3]
  rw [hpend] at q1 q2 q3
  have hdef : a1.defers = [] := by have := hs1.dr; rw [hd1] at this; exact this
  have hsr2 : SR (K1.at_ (K1.w.putObj (K1.base id) (.loop { r1 with state := .busy }))) lb.N ⟨σ1.tm, upd σ1.h id (some (.loop (lb.st .busy lb.pending))), σ1.n, []⟩ a1 := ⟨hs1.next, q1, hs1.tr.mono q3, hdef⟩
  obtain ⟨e2, a2, w2, ⟨K2, σ2, e2', rfl, hs2, hst2, he2, hd2, hl2, hR⟩, harr2⟩ := hbody (K1.at_ (K1.w.putObj (K1.base id) (.loop { r1 with state := .busy }))) a1 hst1.next' hsr2 b ⟨rfl, _, rfl⟩ [] (c :: cs)
  have hK12 : StM K.next K H K2 σ2.h := (hst1.trans (q2.stm hst1.next')).trans hst2
  have hbase2 : K2.base id = K.base id := (hK12.mu id (hr.lt id (by rw [hH]; simp))).1
  obtain ⟨r2, p1, p2, p3, p4, p5, p6, p7, p8⟩ := loop_put hs2.rel hl2
  have p1' : K2.w.heap[K.base id]? = some (.loop r2) := by rw [← hbase2]; exact p1
  have hpre : Steps P (lone (Frame.round (K.base id) r.fn a.tmps lb.assign r.body .normal) (c :: cs) K.w) (lone (b.fr a1 [.code r.body]) (c :: cs) (K1.w.putObj (K1.base id) (.loop { r1 with state := .busy }))) :=
    Steps.trans (show Steps P (lone (b.fr a [.code lb.assign, .beginRound, .code r.body]) (c :: cs) K.w) _ from harr) (.one hbegin)
  have fin : ∀ (bb : Bool) (s : LoopState) (p : Option Code), R bb (upd σ2.h id (some (.loop (lb.st s p)))) σ2.n → Steps P (lone (b.fr a1 [.code r.body]) (c :: cs) (K1.w.putObj (K1.base id) (.loop { r1 with state := .busy }))) (lone (c.finish (.bool bb)) cs (K2.w.putObj (K.base id) (.loop { r2 with state := s, pending := p }))) →
      ∃ bb K' H', Rel K' H' ∧ Step K H K' H' ∧ R bb H' K'.next ∧ Steps P (lone (Frame.round (K.base id) r.fn a.tmps lb.assign r.body .normal) (c :: cs) K.w) (lone (c.finish (.bool bb)) cs K'.w) := by
    intro bb s p hRb hsteps
    obtain ⟨z1, z2, _⟩ := p8 s p
    refine ⟨bb, _, _, z1, (hK12.trans (z2.stm hK12.next')).step, ?_, hpre.trans ?_⟩
    · have hn2 : K2.next = σ2.n := hs2.next
      show R bb _ K2.next
      rw [hn2]; exact hRb
    · rw [← hbase2] at hsteps; exact hsteps
  rw [g6] at *
  cases he2 with
  | normal => exact fin true _ _ hR (Steps.trans harr2 (.one (st_round_end (b := b) rfl rfl p1')))
  | ret => obtain ⟨k', harr2⟩ := harr2; exact fin false _ _ hR (Steps.trans harr2 (.one (st_round_ret (b := b) rfl rfl p1')))
  | exit i => obtain ⟨k', hx, harr2⟩ := harr2; exact fin false _ _ hR (Steps.trans harr2 (.one (st_round_exit (b := b) rfl rfl (by rw [hx]; rfl) p1')))
  | goto i => exact hR.elim
  | panic => exact hR.elim
end Go.Lg

/- Ranges over functions: the rules for the loop and for yield's calls; contracts carried to a larger memory. -/
set_option linter.unusedVariables false
set_option linter.unusedSimpArgs false
set_option linter.unusedSectionVars false
namespace Go.Lg
open Go

theorem mo_yield {P : Program} {B : Fb → Prop} {ops : Array Oper} {l : List Nat} {i : Nat} {o : Oper} {Q : Ex → Act → World → Prop} {a : Act} {w : World} {lp : Nat} {f : FuncId} {tmps : Array Value} {as bd : Code}
    (ho : ops[i]? = some o) (hw : Region.wanted o (yielded ops a.tmps) = true) (hd : ∀ c, o.op ≠ .defer c) (hr : (execOp a.eval o).run P w = .ok (.round lp f tmps as bd) w)
    (h : ∀ c cs, ∃ bb w2, Steps P (lone (Frame.round lp f tmps as bd .normal) (c :: cs) w) (lone (c.finish (.bool bb)) cs w2) ∧ MO P B ops l Q (a.put o.dst (.bool bb)) w2) : MO P B ops (i :: l) Q a w := by
  intro b hb k cs
  have hg := stG_op (P := P) (b := b) (k := k) (cs := cs) (w := w) (rest := l) ho hw (.inr hd)
  obtain ⟨bb, w2, hsteps, hm⟩ := h (b.fr a (.inRegion ops (i :: l) :: k)) cs
  obtain ⟨e, a', w3, hq, harr⟩ := hm b hb k cs
  have henter : step P (lone (b.fr a (.inRegion ops (i :: l) :: k)) cs w) = .next (lone (Frame.round lp f tmps as bd .normal) (b.fr a (.inRegion ops (i :: l) :: k) :: cs) w) :=
    step_lone_go (by rw [hg]; simp [stepG.apply, hr, Fb.fr])
  rw [fin_fr ho] at hsteps
  exact ⟨e, a', w3, hq, .of_steps (.head henter hsteps) harr⟩
section
variable {P : Program} {B : Fb → Prop} {N m : Nat} {all rest : List Oper} {Q : AEx → St → Prop} {tm : Nat → AV} {hp : Heap} {n : Nat} {df : List Nat} {d : Nat} {ty : TypeId} {pos : String} {af : Array Edge}
theorem run_yieldop {fo : Operand} {args : Array Operand} {ats : Array TypeId} {o : Oper} {id : Nat} {K : Ctx} {a : Act} (hop : o.op = .call { callee := .value fo, args := args, argTypes := ats }) (hr : TR K N tm a.tmps) (hf : evo tm fo = some (.yieldf id)) :
    (execOp a.eval o).run P K.w = (Instr.yield (K.base id) (args.map a.eval)).run P K.w := by
  have hv := evo_sound hr hf
  generalize hh : a.eval fo = v at hv
  cases hv
  unfold execOp; rw [hop]
  have hres : (resolve a.eval { callee := .value fo, args := args, argTypes := ats } o.type).run P K.w = .ok { target := .fn (.yield (K.base id)) #[], args := #[] ++ args.map a.eval } K.w := by
    unfold resolve
    simp only [hh, Deferred.ofValue]
    rfl
  rw [run_bindv hres]
  unfold invoke
  simp
theorem wl_yield {fo : Operand} {args : Array Operand} {ats : Array TypeId} {id : Nat} {xs : List AV} {R : Bool → Heap → Nat → Prop} (hf : evo tm fo = some (.yieldf id)) (hx : evs tm args.toList = some xs) (hy : YC P id xs hp n R) (hd : d < N)
    (h : ∀ b h' n', R b h' n' → WL P B N m all rest Q ⟨upd tm d (.bool b), h', n', df⟩) : WL P B N m all (⟨some d, .call { callee := .value fo, args := args, argTypes := ats }, ty, pos, af, none⟩ :: rest) Q ⟨tm, hp, n, df⟩ := by
  intro pre hpre K a hm hs
  rw [range'_cons]
  have hxs := evs_sound hs.tr hx
  obtain ⟨f, tmps, as, bd, hrun, hround⟩ := hy K (args.map a.eval) hs.next hs.rel (by simpa using hxs)
  refine mo_yield (at_pre hpre) (wanted_of hs.tr (ung_none rfl)) (fun c h => by cases h) ((run_yieldop rfl hs.tr hf).trans hrun) fun c cs => ?_
  obtain ⟨b, K', H', h1, h2, h3, h4⟩ := hround c cs
  refine ⟨b, K'.w, h4, ?_⟩
  have hE := h2.ext hs.rel
  have hs' : SR K' N ⟨upd tm d (.bool b), H', K'.next, df⟩ (a.put (some d) (.bool b)) := ⟨rfl, h1, (hs.tr.mono hE).put (d := some d) (fun t ht => by cases ht; exact hd) (.bool b), by rw [put_defers]; exact hs.dr.mono hE⟩
  exact (h b H' K'.next h3 (pre ++ [_]) (by simp [hpre]) K' _ (Nat.le_trans hm h2.next) hs').mono fun _ _ _ hq => hq.step (h2.stm hm)

/-- The loop. -/
theorem w_range {f : Operand} {ps : Array Tmp} {as bd : Code} {g : FuncId} {first cap : List AV} {R : AR → Heap → Nat → Prop} (hf : evo tm f = some (.func (.func g) first cap)) (hc : Callable P g)
    (hac : AC P g (first ++ [.yieldf (n + 1)] ++ cap) (upd (upd hp n (some .deferred)) (n + 1) (some (.loop ⟨tm, N, ps, as, bd, .ready, none⟩))) (n + 2) R)
    (h : ∀ r h' n', R r h' n' → ∃ x lb', r = .ret x ∧ h' (n + 1) = some (.loop lb') ∧ lb'.state ≠ .busy ∧
      match lb'.pending with
      | none => Q .normal ⟨tm, upd h' (n + 1) none, n', n :: df⟩
      | some c => W P Plain N m c Q ⟨tm, upd h' (n + 1) none, n', n :: df⟩) : W P Plain N m (.rangeFunc f ps as bd) Q ⟨tm, hp, n, df⟩ := by
  intro K a hm hs b hb k cs
  have hn : K.next = n := hs.next
  subst hn
  have hv := evo_sound hs.tr hf
  generalize hh : a.eval f = v at hv
  cases hv
  rename_i fs cp g1 g2 g3 g4 g5
  have hfs : VRs K first fs.toList := VR.agg_.1 (.agg g2 g3)
  have hcp : VRs K cap cp.toList := VR.agg_.1 (.agg g4 g5)
  let o1 : Obj := .deferred (some [])
  let K1 := K.newOwn o1 0
  have hb1 : BR K1 K.next .deferred := by
    show K1.w.heap[K1.base K.next]? = _
    have e1 : K1.base K.next = K.w.heap.size := upd_same _ _ _
    rw [e1]
    show (K.w.heap.push o1)[K.w.heap.size]? = _
    simp [o1]
  obtain ⟨q1, q2⟩ := newOwn_ok (sz := 0) hs.rel hb1
  have hE1 := newOwn_ext hs.rel o1 0
  let o2 : Obj := .loop { state := .ready, pending := none, fn := b.fn, tmps := a.tmps, params := ps, assign := as, body := bd, defers := K.w.heap.size }
  let K2 := K1.newOwn o2 0
  have hE2 := newOwn_ext q1 o2 0
  have hz1 : K1.w.heap.size = K.w.heap.size + 1 := by show (K.w.heap.push o1).size = _; simp
  have hb2 : BR K2 K1.next (.loop ⟨tm, N, ps, as, bd, .ready, none⟩) := by
    refine ⟨b.fn, a.tmps, K.w.heap.size, ?_, (hs.tr.mono hE1).mono hE2⟩
    have e1 : K2.base K1.next = K1.w.heap.size := upd_same _ _ _
    rw [e1]
    show (K1.w.heap.push o2)[K1.w.heap.size]? = _
    simp [o2]
  obtain ⟨q3, q4⟩ := newOwn_ok (sz := 0) q1 hb2
  have hbase : K2.base (K.next + 1) = K.w.heap.size + 1 := by
    have e1 : K2.base K1.next = K1.w.heap.size := upd_same _ _ _
    exact e1.trans hz1
  have hargs : VRs K2 (first ++ [.yieldf (K.next + 1)] ++ cap) (((fs ++ #[Value.func (.yield (K.w.heap.size + 1)) #[] #[]]) ++ cp).toList) := by
    have hy : VR K2 (.yieldf (K.next + 1)) (.func (.yield (K.w.heap.size + 1)) #[] #[]) := by
      rw [← hbase]; exact .yieldf (Nat.lt_succ_self _)
    simp only [Array.toList_append]
    exact (((hfs.mono hE1).mono hE2).append (.cons hy (.nil _))).append ((hcp.mono hE1).mono hE2)
  let a' : Act := { a with defers := { target := .collected K.w.heap.size, args := #[] } :: a.defers }
  obtain ⟨e, w3, fr, ⟨K3, H3, r, rfl, hrel3, hst3, hrr, hR⟩, hcomes, _, hleave⟩ := hac K2 _ rfl q3 hargs (b.fr a' (.inRangeFunc (K.w.heap.size + 1) :: k) :: cs)
  obtain ⟨x, lb', rfl, hl3, hbusy, hq⟩ := h r H3 K3.next hR
  cases hrr with
  | @ret _ v hvx =>
    obtain ⟨rr, p1, p2, p3, _, _, _, _, _⟩ := loop_put hrel3 hl3
    have hmu3 := hst3.mu (K.next + 1) (Nat.lt_succ_self _)
    have hb3 : K3.base (K.next + 1) = K.w.heap.size + 1 := hmu3.1.trans hbase
    have hne : H3 (K.next + 1) ≠ none := by rw [hl3]; simp
    have hw := wrote_put K3.w (K3.base (K.next + 1)) (.loop { rr with state := .exhausted })
    obtain ⟨d1, d2⟩ := wrote_drop hrel3 hne hw
    have hE3 := hst3.ext q3
    have hE4 := wrote_ext hrel3 hne hw
    have hsteps : Steps P (lone (b.fr a (.code (.rangeFunc f ps as bd) :: k)) cs K.w) (lone (b.fr a' ((lb'.pending.map Item.code).toList ++ k)) cs (K3.w.putObj (K3.base (K.next + 1)) (.loop { rr with state := .exhausted }))) := by
      refine .head (st_range hb hh hc) (Steps.trans hcomes (.head (step_leave_returned hleave) ?_))
      rw [fin_range]
      have := st_endRange (P := P) (b := b) (a := a') (k := k) (cs := cs) (w := K3.w) (l := K.w.heap.size + 1) (r := rr) (by rw [← hb3]; exact p1) (by rw [p2]; exact hbusy)
      rw [hb3, ← p3]
      exact .one this
    have hdr : DR (K3.at_ (K3.w.putObj (K3.base (K.next + 1)) (.loop { rr with state := .exhausted }))) (upd H3 (K.next + 1) none) (K.next :: df) a'.defers := by
      refine ⟨a.defers, ?_, ?_, (((hs.dr.mono (H' := hp) hE1).mono (H' := hp) hE2).mono (H' := hp) hE3).mono hE4⟩
      · have e1 : K3.base K.next = K2.base K.next := (hst3.mu K.next (show K.next < K2.next from Nat.lt_succ_of_lt (Nat.lt_succ_self _))).1
        have e2 : K2.base K.next = K1.base K.next := upd_ne _ _ (Nat.ne_of_lt (Nat.lt_succ_self _))
        have e3 : K1.base K.next = K.w.heap.size := upd_same _ _ _
        show a'.defers = { target := .collected (K3.base K.next), args := #[] } :: a.defers
        rw [e1, e2, e3]
      · exact Nat.lt_of_lt_of_le (show K.next < K2.next from Nat.lt_succ_of_lt (Nat.lt_succ_self _)) hst3.next
    have hs4 : SR (K3.at_ (K3.w.putObj (K3.base (K.next + 1)) (.loop { rr with state := .exhausted }))) N ⟨tm, upd H3 (K.next + 1) none, K3.next, K.next :: df⟩ a' := ⟨rfl, d1, (((hs.tr.mono hE1).mono hE2).mono hE3).mono hE4, hdr⟩
    have hst4 : StM m K hp (K3.at_ (K3.w.putObj (K3.base (K.next + 1)) (.loop { rr with state := .exhausted }))) (upd H3 (K.next + 1) none) := (((q2.trans q4).trans hst3).trans d2).stm hm
    cases hpe : lb'.pending with
    | none =>
      rw [hpe] at hq hsteps
      exact ⟨.normal, a', _, ⟨_, _, .normal, rfl, hs4, hst4, .normal, hq⟩, hsteps⟩
    | some c =>
      rw [hpe] at hq hsteps
      obtain ⟨e5, a5, w5, ⟨K5, σ5, e5', rfl, hs5, hst5, he5, hq5⟩, harr5⟩ := hq _ a' hst4.next' hs4 b hb k cs
      exact ⟨e5, a5, _, ⟨K5, σ5, e5', rfl, hs5, hst4.trans hst5, he5, hq5⟩, .of_steps hsteps harr5⟩
end

/-! a round's contract over the loop's own memory, carried to whatever more there is -/
inductive LowB (k : Nat) : Blk → Prop
  | cells {xs : List AV} {e : TypeId} (h : ∀ x, x ∈ xs → Low k x) : LowB k (.cells xs e)
  | loop {l : LoopB} (h : ∀ t, Low k (l.tm t)) : LowB k (.loop l)
  | deferred : LowB k .deferred
theorem BR.cut {K : Ctx} {k id : Nat} {b : Blk} (h : BR K id b) (hb : LowB k b) : BR (K.cut k) id b := by
  cases hb with
  | cells hx =>
    obtain ⟨arr, fr, ha, ht, hz, hl, hv⟩ := h
    exact ⟨arr, fr, ha, ht, hz, hl, fun j x hj => let ⟨v, h1, h2⟩ := hv j x hj; ⟨v, h1, h2.cut (hx x (List.mem_of_getElem? hj))⟩⟩
  | loop hx =>
    obtain ⟨fn, tmps, defers, ha, ht⟩ := h
    exact ⟨fn, tmps, defers, ha, ht.1, fun t => (ht.2 t).cut (hx t)⟩
  | deferred => exact h
/-- A function that only computes and ranges over functions. -/
def DonePD (P : Program) (fn : Func) (X : AV → Prop) : AEx → St → Prop
  | .normal, σ | .ret, σ => Marks σ.h σ.df ∧ ∃ x, ResV P fn.ntmps fn ⟨σ.tm, killAll σ.h σ.df, σ.n, []⟩ x ∧ Pur x ∧ X x
  | _, _ => False
theorem pf_of_ac0 {P : Program} {f : FuncId} {args : List AV} {X : AV → Prop} (hc : Callable P f) (ha : ∀ x, x ∈ args → Pur x) (h0 : AC P f args (hl []) 0 fun r _ _ => ∃ x, r = .ret x ∧ Pur x ∧ X x) : PF P f args X := by
  refine ⟨hc, fun n => ?_⟩
  intro K vs hn hr hv
  have hv0 : VRs (K.cut 0) args vs.toList := ⟨hv.1, fun i x v hx hu => VR.pur (K := K) (K' := K.cut 0) (fun _ h => h) (fun _ _ => rfl) (hv.2 i x v hx hu) (ha x (List.mem_of_getElem? hx))⟩
  have hr0 : Rel (K.cut 0) (hl []) := ⟨fun _ h => absurd rfl h, fun _ h => absurd rfl h, fun _ _ h => by simp [hl] at h, fun _ _ h => absurd rfl h, hr.ros⟩
  refine (h0 (K.cut 0) vs rfl hr0 hv0).mono ?_
  rintro e w' ⟨K', H1, r, rfl, hr', hst, hrr, x, rfl, hp, hX⟩
  let K2 : Ctx := { base := K.base, boff := K.boff, bsz := K.bsz, next := K.next, ro := K'.ro, w := K'.w }
  have hsame : ∀ b, b < K.w.heap.size → K'.w.heap[b]? = K.w.heap[b]? := fun b hb => hst.same b hb (fun ⟨id, h1, _⟩ => h1 rfl)
  refine ⟨K2, noHeap, .ret x, rfl, ⟨fun _ h => absurd rfl h, fun _ h => absurd rfl h, fun _ _ h => by simp [noHeap] at h, fun _ _ h => absurd rfl h, hr'.ros⟩, ⟨Nat.le_refl _, fun _ _ => ⟨rfl, rfl, rfl⟩, hst.ro, hst.size, fun b hb _ => hsame b hb, fun b ⟨_, h, _⟩ => absurd rfl h, fun b hb => ?_, hst.os, hst.tape, hst.output⟩, ?_, x, rfl, hp, hX⟩
  · rcases hst.ro' b hb with h1 | ⟨id, h1, _⟩ | h1
    · exact .inl h1
    · exact absurd rfl h1
    · exact .inr (.inr h1)
  · cases hrr with
    | ret hv => exact .ret (VR.pur (K := K') (K' := K2) (fun _ h => h) (fun _ _ => rfl) hv hp)
theorem pf_of_wd0 {P : Program} {f : FuncId} {fn : Func} {c : Code} {args : List AV} {X : AV → Prop} (hf : P.funcs[f]? = some fn) (hb : fn.body = some c) (hn : (fn.name == "runtime.NumGoroutine") = false) (hN : args.length ≤ fn.ntmps) (ha : ∀ x, x ∈ args → Pur x)
    (h : W P Plain fn.ntmps 0 c (DonePD P fn X) ⟨args0 args, hl [], 0, []⟩) : PF P f args X := by
  refine pf_of_ac0 ⟨fn, hf, hn, by rw [hb]; rfl⟩ ha (ac_of_wd hf hb hN (h.mono ?_))
  rintro e σ hq
  cases e with
  | normal => obtain ⟨h1, x, h2, h3, h4⟩ := hq; exact ⟨h1, x, h2, x, rfl, h3, h4⟩
  | ret => obtain ⟨h1, x, h2, h3, h4⟩ := hq; exact ⟨h1, x, h2, x, rfl, h3, h4⟩
  | _ => exact hq.elim
end Go.Lg

/- Operations that only compute, by any means; struct equality, max and min, slices' literals. -/
set_option linter.unusedVariables false
set_option linter.unusedSimpArgs false
set_option linter.unusedSectionVars false
namespace Go.Lg
open Go

/-- The operation gives this value, wherever its operands are these. -/
def Pure (P : Program) (tm : Nat → AV) (op : Op) (x : AV) : Prop :=
  (∀ c, op ≠ .defer c) ∧ ∀ (N : Nat) (o : Oper) (tm' : Nat → AV) (h : Heap) (n : Nat) (df : List Nat), o.op = op → (∀ t, Operand.tmp t ∈ op.operands.toList → tm' t = tm t) → OpV P N o ⟨tm', h, n, df⟩ x h n
section
variable {P : Program} {B : Fb → Prop} {N m : Nat} {Q : AEx → St → Prop} {all rest : List Oper} {A : Nat → Heap → Nat → Prop} {k : Nat} {df : List Nat} {bb : Bool} {tm : Nat → AV} {hp hp' : Heap} {n n' : Nat}
  {d : Nat} {op : Op} {ty : TypeId} {pos : String} {af : Array Edge} {j : Nat} {want b : Bool} {x y : AV} {t : Nat}
theorem wp (hx : Pure P tm op x) (hd : d < N) (h : WL P B N m all rest Q ⟨upd tm d x, hp, n, df⟩) : WL P B N m all (⟨some d, op, ty, pos, af, none⟩ :: rest) Q ⟨tm, hp, n, df⟩ :=
  wl_op (o := ⟨some d, op, ty, pos, af, none⟩) (ung_none rfl) (fun _ h => by cases h; exact hd) hx.1 (hx.2 N ⟨some d, op, ty, pos, af, none⟩ tm hp n df rfl (fun _ _ => rfl)) h
theorem wpg (hg : gslot all j = some t) (ht : tm t = y) (hy : y = .bool want) (hx : Pure P tm op x) (hd : d < N) (h : WL P B N m all rest Q ⟨upd tm d x, hp, n, df⟩) : WL P B N m all (⟨some d, op, ty, pos, af, some (j, want)⟩ :: rest) Q ⟨tm, hp, n, df⟩ :=
  wl_op (o := ⟨some d, op, ty, pos, af, some (j, want)⟩) (by have := ung_some (o := ⟨some d, op, ty, pos, af, some (j, want)⟩) (tm := tm) rfl hg (ht.trans hy); simpa using this) (fun _ h => by cases h; exact hd) hx.1 (hx.2 N ⟨some d, op, ty, pos, af, some (j, want)⟩ tm hp n df rfl (fun _ _ => rfl)) h
theorem wr_p (hx : Pure P tm op x) (hd : d < N) (h : WR P B N m all A Q df bb (k + 1) rest (upd tm d x) hp n) : WR P B N m all A Q df bb k (⟨some d, op, ty, pos, af, none⟩ :: rest) tm hp n :=
  .op (fun tm' h n _ hr i hi => does_op hi (ung_none rfl) (fun _ h => by cases h; exact hd) hx.1 (hx.2 N ⟨some d, op, ty, pos, af, none⟩ tm' h n df rfl (rd_op (o := ⟨some d, op, ty, pos, af, none⟩) hr))) h
theorem wr_pg (hg : gslot all j = some t) (ht : tm t = y) (hy : y = .bool want) (hx : Pure P tm op x) (hd : d < N) (h : WR P B N m all A Q df bb (k + 1) rest (upd tm d x) hp n) : WR P B N m all A Q df bb k (⟨some d, op, ty, pos, af, some (j, want)⟩ :: rest) tm hp n :=
  .op (fun tm' h n _ hr i hi => does_op hi (by
    have := ung_some (o := ⟨some d, op, ty, pos, af, some (j, want)⟩) (tm := tm') rfl hg ((rd_guard (o := ⟨some d, op, ty, pos, af, some (j, want)⟩) hr rfl hg).trans (ht.trans hy)); simpa using this) (fun _ h => by cases h; exact hd) hx.1 (hx.2 N ⟨some d, op, ty, pos, af, some (j, want)⟩ tm' h n df rfl (rd_op (o := ⟨some d, op, ty, pos, af, some (j, want)⟩) hr))) h
end

theorem wrap64 {x : Int} (h1 : -9223372036854775808 ≤ x) (h2 : x ≤ 9223372036854775807) : IntKind.i64.wrap x = x := by
  have e : IntKind.i64.wrap x = if x % 18446744073709551616 ≥ 9223372036854775808 then x % 18446744073709551616 - 18446744073709551616 else x % 18446744073709551616 := by
    show (if (true && decide (x % 18446744073709551616 ≥ 9223372036854775808)) = true then _ else _) = _
    simp only [Bool.true_and, decide_eq_true_eq]
    rfl
  rw [e]
  by_cases h : x % 18446744073709551616 ≥ 9223372036854775808
  · rw [if_pos h]; omega
  · rw [if_neg h]; omega
section
variable {P : Program} {T : TT} {tm : Nat → AV}
theorem builtin_run {N : Nat} {o : Oper} {σ : St} {b : Builtin} {args : Array Operand} {ats : Array TypeId} {y : AV} {xs : List AV} (hop : o.op = .call { callee := .builtin b, args := args, argTypes := ats }) (hx : evs σ.tm args.toList = some xs)
    (h : ∀ K vs, VRs K xs vs.toList → ∃ v, (∀ cs, (Go.builtin b ats o.type cs vs).run P K.w = .ok (.value v) K.w) ∧ VR K y v) : OpV P N o σ y σ.h σ.n := by
  refine opv_of fun K a hs => ?_
  have hxs := evs_sound hs.tr hx
  obtain ⟨v, h1, h2⟩ := h K (args.map a.eval) (by simpa using hxs)
  refine ⟨v, ?_, h2⟩
  unfold execOp; rw [hop]
  simp only [resolve]
  rw [run_bindv (run_purev _ _)]
  unfold invoke
  exact h1 _
theorem pure_max {x y : Operand} {ats : Array TypeId} {k : IntKind} {a b : Int} (hx : evo tm x = some (.int k a)) (hy : evo tm y = some (.int k b)) : Pure P tm (.call { callee := .builtin .max, args := #[x, y], argTypes := ats }) (.int k (if b > a then b else a)) := by
  refine ⟨fun c h => (by cases h), fun N o tm' h n df hop hr => ?_⟩
  refine builtin_run (xs := [.int k a, .int k b]) hop ?_ fun K vs hv => ?_
  · have e1 := evo_congr (tm := tm) (tm' := tm') (x := x) (fun t e => hr t (by simp [Op.operands, Call.operands, e]))
    have e2 := evo_congr (tm := tm) (tm' := tm') (x := y) (fun t e => hr t (by simp [Op.operands, Call.operands, e]))
    simp only [evs, e1, e2, hx, hy]
  · obtain ⟨l⟩ := vs
    match l, hv with
    | [v1, v2], hv =>
      have h1 := hv.head.int_inv
      have h2 := hv.tail.head.int_inv
      subst h1 h2
      exact ⟨_, fun _ => by simp [Go.builtin, Builtin.max_, Builtin.max2, List.foldlM], .int _ _⟩
    | [], hv => have := hv.1; simp at this
    | [_], hv => have := hv.1; simp at this
    | _ :: _ :: _ :: _, hv => have := hv.1; simp at this
/-- A slice's literal, read only from then on. -/
theorem pure_bs (hT : TOK P T) {t e : TypeId} {len : Nat} {parts : Array (Nat × Operand)} {ps : List (Nat × AV)} {ys : List AV} {ti ei : TI} (ht : T t = some ti) (hd : ti.desc = .slice e) (he : T e = some ei) (hp : evp tm parts.toList = some ps) (hy : fillA (fun j => some (j * ei.size, ei.size)) (repA len ei.zero) ps = some ys)
    (hz : 0 < len * ei.size) (hb : len * ei.size ≤ 16777216) (hzl : ei.zero.length = ei.size) (hl : ys.length = len * ei.size) : Pure P tm (.buildSlice t len parts) (.view (chunk ei.size len ys)) :=
  ⟨fun c h => (by cases h), fun N o tm' h n df hop hr => opv_buildSlice_ro hT (σ := ⟨tm', h, n, df⟩) hop ht hd he hz hb hzl (by rw [← hp]; exact evp_congr fun t e => hr t (by simpa [Op.operands] using e)) hy hl⟩
end
end Go.Lg

/- A loop that leaves in its first round. -/
set_option linter.unusedVariables false
set_option linter.unusedSimpArgs false
set_option linter.unusedSectionVars false
namespace Go.Lg
open Go
theorem w_once {P : Program} {B : Fb → Prop} {N m : Nat} {Q : AEx → St → Prop} {σ : St} {c : Code} (h : W P B N m c (AEx.go (fun _ => False) Q) σ) : W P B N m (.loop c) Q σ := by
  refine w_loop (fun _ σ' => σ' = σ) 0 rfl ?_
  rintro n σ' rfl
  refine h.mono fun e σ2 hq => ?_
  cases e with
  | normal => exact hq.elim
  | _ => exact hq

theorem SubRs.purs {r : List Nat} : ∀ {xs ys : List AV}, (∀ x, x ∈ xs → Pur x) → xs = ys → SubRs r xs ys
  | [], _, _, rfl => .nil
  | x :: xs, _, h, rfl => .cons (.pur (h x (by simp))) (SubRs.purs (fun y hy => h y (by simp [hy])) rfl)
theorem chunk_flatten {sz : Nat} : ∀ {rows : List (List AV)}, (∀ r, r ∈ rows → r.length = sz) → chunk sz rows.length rows.flatten = rows
  | [], _ => rfl
  | r :: rows, h => by
    have h0 := h r (by simp)
    simp only [List.length_cons, List.flatten_cons, chunk]
    rw [List.take_append_of_le_length (by omega), List.take_of_length_le (by omega), List.drop_append_of_le_length (by omega), List.drop_of_length_le (by omega), List.nil_append, chunk_flatten (fun r hr => h r (by simp [hr]))]
def AnyH : Nat → Heap → Nat → Prop := fun _ _ _ => True
section
variable {P : Program} {B : Fb → Prop} {N m : Nat} {Q : AEx → St → Prop} {T : TT} {all rest : List Oper} {df : List Nat} {bb : Bool} {k : Nat} {tm : Nat → AV} {hp : Heap} {n : Nat}
  {d : Nat} {op : Op} {ty : TypeId} {pos : String} {af : Array Edge} {j : Nat} {want b : Bool} {x y : AV} {t t2 e : TypeId}
theorem wr_nilA (h : Q .normal ⟨tm, hp, n, df⟩) : WR P B N m all AnyH Q df bb k [] tm hp n := .nil (fun _ _ => trivial) h
/-- With one change, at place 'e': what stands before it sees the memory ahead of it, what stands behind it the memory behind. -/
def AtE (all : List Oper) (e : Nat) (h0 : Heap) (n0 : Nat) (h1 : Heap) (n1 : Nat) : Nat → Heap → Nat → Prop := fun k h n => (must all 3 e k = false ∧ h = h0 ∧ n = n0) ∨ (must all 3 k e = false ∧ h = h1 ∧ n = n1)
theorem w_drawS {id : Nat} {ops : Array Oper} (e : Nat) {h1 : Heap} {n1 : Nat} (hmx : P.follows .mixedOrders = true) (hd : drawOk ops.toList = true) (hw : WR P B N m ops.toList (AtE ops.toList e hp n h1 n1) Q df false 0 ops.toList tm hp n) : W P B N m (.region id ops true) Q ⟨tm, hp, n, df⟩ :=
  w_draw hmx hd hw
theorem wr_nilE {e : Nat} {h0 h1 : Heap} {n0 n1 : Nat} (h : Q .normal ⟨tm, hp, n, df⟩) : WR P B N m all (AtE all e h0 n0 h1 n1) Q df true k [] tm hp n := .nil (fun h => by cases h) h
/-- What must come before the change. -/
theorem wr_xB (hT : TOK P T) {e : Nat} {h0 h1 : Heap} {n0 n1 : Nat} (hb : must all 3 k e = true) (hx : pvx T tm h0 op = some x) (hd : d < N) (h : WR P B N m all (AtE all e h0 n0 h1 n1) Q df bb (k + 1) rest (upd tm d x) hp n) : WR P B N m all (AtE all e h0 n0 h1 n1) Q df bb k (⟨some d, op, ty, pos, af, none⟩ :: rest) tm hp n :=
  wr_x hT (fun h' n' hA => by
    rcases hA with ⟨_, e1, _⟩ | ⟨h2, _⟩
    · rw [e1]; exact hx
    · rw [hb] at h2; cases h2) (fun c h => by rw [h] at hx; cases hx) hd h
theorem wr_storeS (hT : TOK P T) {a c : Operand} {u v : AV} {h1 : Heap} (hu : evo tm a = some u) (hv : evo tm c = some v) (hs : hvStore T hp t u v = some h1) (h : WR P B N m all (AtE all k hp n h1 n) Q df true (k + 1) rest tm h1 n) : WR P B N m all (AtE all k hp n h1 n) Q df false k (⟨none, .store t a c, ty, pos, af, none⟩ :: rest) tm hp n :=
  wr_store hT hu hv hs (fun j => ⟨fun h => .inl ⟨h, rfl, rfl⟩, fun h => .inr ⟨h, rfl, rfl⟩⟩) h
theorem pure_bs1 (hT : TOK P T) {len : Nat} {parts : Array (Nat × Operand)} {ps : List (Nat × AV)} {ys : List AV} {ti ei : TI} {rows : List (List AV)} (ht : T t = some ti) (hd : ti.desc = .slice e) (he : T e = some ei) (hp : evp tm parts.toList = some ps) (hy : fillA (fun j => some (j * ei.size, ei.size)) (repA len ei.zero) ps = some ys)
    (hc : chunk ei.size len ys = rows) (hz : 0 < len * ei.size) (hb : len * ei.size ≤ 16777216) (hzl : ei.zero.length = ei.size) (hl : ys.length = len * ei.size) : Pure P tm (.buildSlice t len parts) (.view rows) := by
  subst hc; exact pure_bs hT ht hd he hp hy hz hb hzl hl

/-- An append to nothing. -/
theorem ap_new (hT : TOK P T) {x z : Operand} {ti ei i2 : TI} {rows : List (List AV)} {o : Oper} {tm' : Nat → AV} {df : List Nat} (hop : o.op = .call { callee := .builtin .append, args := #[x, z], argTypes := #[t, t2] }) (ht : T t = some ti) (hd : ti.desc = .slice e) (he : T e = some ei) (ht2 : T t2 = some i2) (hn2 : notInt i2.desc = true)
    (hx : evo tm x = some .empty) (hz : evo tm z = some (.view rows)) (hk : 0 < rows.length) (hl : ∀ r, r ∈ rows → r.length = ei.size) (hsm : (2 * rows.length + 768) * ei.bytes ≤ 281474976710656) (hsm2 : rows.length ≤ 4611686018427387904) (hb : 0 < ei.bytes)
    (hr : ∀ t, Operand.tmp t ∈ o.op.operands.toList → tm' t = tm t) : OpV P N o ⟨tm', hp, n, df⟩ (.slice n 0 rows.length none ei.size) (upd hp n (some (.cells rows.flatten e))) (n + 1) := by
  rw [hop] at hr
  exact opv_append_new hT (σ := ⟨tm', hp, n, df⟩) (src := .view rows) hop ht hd he ht2 hn2 (by rw [← hx]; exact evo_congr fun t e => hr t (by simp [Op.operands, Call.operands, e])) (by rw [← hz]; exact evo_congr fun t e => hr t (by simp [Op.operands, Call.operands, e])) ⟨rfl, rfl, hl⟩ hk hsm hsm2 hb
/-- An append to a slice of the frame's own. -/
theorem ap_own (hT : TOK P T) {x z : Operand} {ti ei i2 : TI} {rows : List (List AV)} {o : Oper} {tm' : Nat → AV} {df : List Nat} {id len : Nat} {cs : List AV} (hop : o.op = .call { callee := .builtin .append, args := #[x, z], argTypes := #[t, t2] }) (ht : T t = some ti) (hd : ti.desc = .slice e) (he : T e = some ei) (ht2 : T t2 = some i2) (hn2 : notInt i2.desc = true)
    (hx : evo tm x = some (.slice id 0 len none ei.size)) (hz : evo tm z = some (.view rows)) (hH : hp id = some (.cells cs e)) (hcl : len * ei.size = cs.length) (hl : ∀ r, r ∈ rows → r.length = ei.size) (hsc : rows.flatten.all scalA = true) (hsm : (2 * (len + rows.length) + 768) * ei.bytes ≤ 281474976710656) (hsm2 : len + rows.length ≤ 4611686018427387904) (hb : 0 < ei.bytes)
    (hr : ∀ t, Operand.tmp t ∈ o.op.operands.toList → tm' t = tm t) : OpV P N o ⟨tm', hp, n, df⟩ (.slice n 0 (len + rows.length) none ei.size) (upd (upd hp id none) n (some (.cells (cs ++ rows.flatten) e))) (n + 1) := by
  rw [hop] at hr
  exact opv_append_own hT (σ := ⟨tm', hp, n, df⟩) (src := .view rows) (cs := cs) (off := 0) hop ht hd he ht2 hn2 (by rw [← hx]; exact evo_congr fun t e => hr t (by simp [Op.operands, Call.operands, e])) (by rw [← hz]; exact evo_congr fun t e => hr t (by simp [Op.operands, Call.operands, e])) hH (by omega) ⟨rfl, rfl, hl⟩ (fun c hc => List.all_eq_true.1 hsc c hc) hsm hsm2 hb
theorem w_ap {hp' : Heap} {n' : Nat} {c : Call} (h1 : ∀ o : Oper, o.op = .call c → ∀ tm', (∀ t, Operand.tmp t ∈ o.op.operands.toList → tm' t = tm t) → ∀ df, OpV P N o ⟨tm', hp, n, df⟩ x hp' n') (hd : d < N) (h : WL P B N m all rest Q ⟨upd tm d x, hp', n', df⟩) : WL P B N m all (⟨some d, .call c, ty, pos, af, none⟩ :: rest) Q ⟨tm, hp, n, df⟩ :=
  wl_op (o := ⟨some d, .call c, ty, pos, af, none⟩) (ung_none rfl) (fun _ h => by cases h; exact hd) (fun c h => by cases h) (h1 _ rfl tm (fun _ _ => rfl) df) h
theorem wr_ap {hp' : Heap} {n' : Nat} {c : Call} (h1 : ∀ o : Oper, o.op = .call c → ∀ tm', (∀ t, Operand.tmp t ∈ o.op.operands.toList → tm' t = tm t) → ∀ df, OpV P N o ⟨tm', hp, n, df⟩ x hp' n') (hd : d < N) (h : WR P B N m all AnyH Q df true (k + 1) rest (upd tm d x) hp' n') : WR P B N m all AnyH Q df false k (⟨some d, .call c, ty, pos, af, none⟩ :: rest) tm hp n :=
  .eff (fun tm' hr i hi => does_op hi (ung_none rfl) (fun _ h => by cases h; exact hd) (fun c h => by cases h) (h1 _ rfl tm' (rd_op hr) df)) (fun _ => ⟨fun _ => trivial, fun _ => trivial⟩) h
end

theorem hl_push (l : List (Option Blk)) (b : Option Blk) : upd (hl l) l.length b = hl (l ++ [b]) := by
  funext i
  unfold upd hl
  by_cases e : i = l.length
  · subst e; simp
  · rw [if_neg e, List.getD_eq_getElem?_getD, List.getD_eq_getElem?_getD, List.getElem?_append]
    by_cases h : i < l.length
    · rw [if_pos h]
    · rw [if_neg h, List.getElem?_eq_none (by omega), List.getElem?_eq_none (by simp; omega)]
theorem w_rangeL {P : Program} {N m : Nat} {Q : AEx → St → Prop} {tm : Nat → AV} {hs : List (Option Blk)} {df : List Nat} {f : Operand} {ps : Array Tmp} {as bd : Code} {g : FuncId} {first cap : List AV} {R : AR → Heap → Nat → Prop} (hf : evo tm f = some (.func (.func g) first cap)) (hc : Callable P g)
    (hac : ∀ lb, lb = LoopB.mk tm N ps as bd .ready none → AC P g (first ++ [.yieldf (hs.length + 1)] ++ cap) (hl (hs ++ [some .deferred, some (.loop lb)])) (hs.length + 2) R)
    (h : ∀ r h' n', R r h' n' → ∃ x lb', r = .ret x ∧ h' (hs.length + 1) = some (.loop lb') ∧ lb'.state ≠ .busy ∧
      match lb'.pending with
      | none => Q .normal ⟨tm, upd h' (hs.length + 1) none, n', hs.length :: df⟩
      | some c => W P Plain N m c Q ⟨tm, upd h' (hs.length + 1) none, n', hs.length :: df⟩) : W P Plain N m (.rangeFunc f ps as bd) Q ⟨tm, hl hs, hs.length, df⟩ := by
  refine w_range hf hc ?_ h
  have e : upd (upd (hl hs) hs.length (some .deferred)) (hs.length + 1) (some (.loop ⟨tm, N, ps, as, bd, .ready, none⟩)) = hl (hs ++ [some .deferred, some (.loop ⟨tm, N, ps, as, bd, .ready, none⟩)]) := by
    have h2 := hl_push (hs ++ [some .deferred]) (some (.loop ⟨tm, N, ps, as, bd, .ready, none⟩))
    rw [List.length_append, List.length_singleton, ← hl_push, List.append_assoc] at h2
    exact h2
  rw [e]; exact hac _ rfl
end Go.Lg

/- What a round's contract doesn't name stays. -/
set_option linter.unusedVariables false
set_option linter.unusedSimpArgs false
set_option linter.unusedSectionVars false
namespace Go.Lg
open Go
theorem yc_frame {P : Program} {lid : Nat} {args : List AV} {H1 H2 : Heap} {n : Nat} {R : Bool → Heap → Nat → Prop} (hd : ∀ id, H1 id ≠ none → H2 id = none) (h : YC P lid args H1 n R) :
    YC P lid args (H1.or H2) n fun b H' n' => ∃ H1', H' = H1'.or H2 ∧ (∀ id, H1' id ≠ none → H2 id = none) ∧ R b H1' n' := by
  intro K vs hn hr hv
  have in1 : ∀ {id b}, H1 id = some b → (H1.or H2) id = some b := fun h => by simp [Heap.or, h]
  have in2 : ∀ {id b}, H2 id = some b → (H1.or H2) id = some b := fun {id b} h => by
    have : H1 id = none := by
      cases h1 : H1 id with
      | none => rfl
      | some c => have := hd id (by rw [h1]; simp); rw [this] at h; cases h
    simp [Heap.or, this, h]
  have ne1 : ∀ {id}, H1 id ≠ none → (H1.or H2) id ≠ none := fun {id} h => by
    cases h1 : H1 id with
    | none => exact absurd h1 h
    | some b => rw [in1 h1]; simp
  have ne2 : ∀ {id}, H2 id ≠ none → (H1.or H2) id ≠ none := fun {id} h => by
    cases h1 : H2 id with
    | none => exact absurd h1 h
    | some b => rw [in2 h1]; simp
  have hr1 : Rel K H1 := ⟨fun id h => hr.lt id (ne1 h), fun id h => hr.nro id (ne1 h), fun id b h => hr.br id b (in1 h), fun i j hi hj => hr.inj i j (ne1 hi) (ne1 hj), hr.ros⟩
  obtain ⟨f, tmps, as, bd, hy, hround⟩ := h K vs hn hr1 hv
  refine ⟨f, tmps, as, bd, hy, fun c cs => ?_⟩
  obtain ⟨bb, K', H1', hr', hst, hQ, hsteps⟩ := hround c cs
  have hE := hst.ext hr1
  have notOB : ∀ {id}, H2 id ≠ none → ¬ OB K H1 (K.base id) := fun {id} h2 ⟨j, hj, e⟩ => by
    have := hr.inj j id (ne1 hj) (ne2 h2) e
    subst this
    exact h2 (hd j hj)
  have bse : ∀ {id}, H2 id ≠ none → K'.base id = K.base id := fun {id} h2 => (hst.mu id (hr.lt id (ne2 h2))).1
  have sz2 : ∀ {id}, H2 id ≠ none → K.base id < K.w.heap.size := fun {id} h2 => hr.size_lt (ne2 h2)
  have notOB' : ∀ {id}, H2 id ≠ none → ¬ OB K' H1' (K'.base id) := fun {id} h2 ho => by
    rw [bse h2] at ho
    rcases hst.own _ ho with h3 | h3
    · exact notOB h2 h3
    · have := sz2 h2; omega
  have hd' : ∀ id, H1' id ≠ none → H2 id = none := fun id h1 => by
    cases h2 : H2 id with
    | none => rfl
    | some b => exact absurd ⟨id, h1, rfl⟩ (notOB' (id := id) (by rw [h2]; simp))
  have split' : ∀ {id}, (H1'.or H2) id ≠ none → H1' id ≠ none ∨ (H1' id = none ∧ H2 id ≠ none) := fun {id} h => by
    cases h1 : H1' id with
    | none => refine .inr ⟨rfl, ?_⟩; simpa [Heap.or, h1] using h
    | some b => exact .inl (by simp)
  refine ⟨bb, K', H1'.or H2, ⟨fun id h => ?_, fun id h => ?_, fun id b h => ?_, fun i j hi hj e => ?_, hr'.ros⟩, ?_, ⟨H1', rfl, hd', hQ⟩, hsteps⟩
  · rcases split' h with h1 | ⟨_, h2⟩
    · exact hr'.lt id h1
    · exact Nat.lt_of_lt_of_le (hr.lt id (ne2 h2)) hst.next
  · rcases split' h with h1 | ⟨_, h2⟩
    · exact hr'.nro id h1
    · rw [bse h2]
      intro hb
      rcases hst.ro' _ hb with h3 | h3 | h3
      · exact hr.nro id (ne2 h2) h3
      · exact notOB h2 h3
      · have := sz2 h2; omega
  · cases h1 : H1' id with
    | some c => simp only [Heap.or, h1] at h; cases h; exact hr'.br id _ h1
    | none =>
      simp only [Heap.or, h1] at h
      have h2 : H2 id ≠ none := by rw [h]; simp
      exact (hr.br id b (in2 h)).mono hE (hr.lt id (ne2 h2)) (hst.same _ (sz2 h2) (notOB h2))
  · rcases split' hi with h1 | ⟨_, h1⟩ <;> rcases split' hj with h2 | ⟨_, h2⟩
    · exact hr'.inj i j h1 h2 e
    · exact absurd ⟨i, h1, e⟩ (notOB' h2)
    · exact absurd ⟨j, h2, e.symm⟩ (notOB' h1)
    · rw [bse h1, bse h2] at e; exact hr.inj i j (ne2 h1) (ne2 h2) e
  · refine ⟨hst.next, hst.mu, hst.ro, hst.size, fun b hb hn => hst.same b hb (fun ⟨id, h1, e⟩ => hn ⟨id, ne1 h1, e⟩), ?_, fun b hb => ?_, hst.os, hst.tape, hst.output⟩
    · rintro b ⟨id, hid, rfl⟩
      rcases split' hid with h1 | ⟨_, h2⟩
      · rcases hst.own _ ⟨id, h1, rfl⟩ with ⟨j, hj, e⟩ | h3
        · exact .inl ⟨j, ne1 hj, e⟩
        · exact .inr h3
      · exact .inl ⟨id, ne2 h2, (bse h2).symm⟩
    · rcases hst.ro' b hb with h1 | ⟨j, hj, e⟩ | h1
      · exact .inl h1
      · exact .inr (.inl ⟨j, ne1 hj, e⟩)
      · exact .inr (.inr h1)
theorem or_single {H : Heap} {q : Nat} {b : Blk} (hq : H q = none) : H.or (upd noHeap q (some b)) = upd H q (some b) := by
  funext i
  unfold Heap.or upd noHeap
  by_cases e : i = q
  · subst e; rw [hq]
  · rw [if_neg e, if_neg e]; cases H i <;> rfl
theorem single_none {H : Heap} {q : Nat} {b : Blk} (h : ∀ id, H id ≠ none → upd noHeap q (some b) id = none) : H q = none := by
  cases hq : H q with
  | none => rfl
  | some c => have := h q (by rw [hq]; simp); rw [upd_same] at this; cases this
/-- A round's contract beside one more block. -/
theorem yc_beside {P : Program} {lid : Nat} {args : List AV} {H : Heap} {q : Nat} {bl : Blk} {n : Nat} {R : Bool → Heap → Nat → Prop} (hq : H q = none) (h : YC P lid args H n R) :
    YC P lid args (upd H q (some bl)) n fun b H' n' => ∃ H1, H1 q = none ∧ H' = upd H1 q (some bl) ∧ R b H1 n' := by
  have h1 := yc_frame (H2 := upd noHeap q (some bl)) (fun id hid => by
    by_cases e : id = q
    · subst e; exact absurd hq hid
    · rw [upd_ne _ _ e]; rfl) h
  rw [or_single hq] at h1
  refine h1.mono ?_
  rintro b H' n' ⟨H1, rfl, hd, hR⟩
  exact ⟨H1, single_none hd, or_single (single_none hd), hR⟩

/-- Behind code, a ghost step. -/
theorem w_postg {P : Program} {B : Fb → Prop} {N m : Nat} {Q : AEx → St → Prop} {σ : St} {c : Code} (h : W P B N m c (fun e σ => (∀ x, e ≠ .panic x) ∧ ∃ σ1, (∀ K a, m ≤ K.next → SR K N σ a → ∃ K1, K1.w = K.w ∧ SR K1 N σ1 a ∧ StM m K σ.h K1 σ1.h) ∧ Q e σ1) σ) : W P B N m c Q σ := by
  intro K a hm hs
  refine (h K a hm hs).mono ?_
  rintro e a' w' ⟨K', σ', e', rfl, hs', hst, he, hne, σ1, hg, hq⟩
  obtain ⟨K1, hw, hs1, hst1⟩ := hg K' a' hst.next' hs'
  refine ⟨K1, _, e', hw, hs1, hst.trans hst1, ?_, hq⟩
  cases he with
  | normal => exact .normal
  | exit i => exact .exit i
  | goto i => exact .goto i
  | ret => exact .ret
  | panic h => exact absurd rfl (hne _)
theorem gM {N m : Nat} {σ σ1 : St} (hg : ∀ K a, SR K N σ a → ∃ K1, K1.w = K.w ∧ SR K1 N σ1 a ∧ Step K σ.h K1 σ1.h) : ∀ K a, m ≤ K.next → SR K N σ a → ∃ K1, K1.w = K.w ∧ SR K1 N σ1 a ∧ StM m K σ.h K1 σ1.h :=
  fun K a hm hs => let ⟨K1, h1, h2, h3⟩ := hg K a hs; ⟨K1, h1, h2, h3.stm hm⟩

theorem doneD_ret {P : Program} {T : TT} (hT : TOK P T) {fn : Func} {X : AV → Prop} {rs : Array ResultVar} {xs : List AV} {tm : Nat → AV} {h : Heap} {n : Nat} {df : List Nat} (hr : fn.results = rs) (hm : Marks h df) (hres : resA T ⟨tm, killAll h df, n, []⟩ rs.toList = some xs) (hp : Pur (tup xs)) (hx : X (tup xs)) : DonePD P fn X .ret ⟨tm, h, n, df⟩ :=
  ⟨hm, tup xs, resv_of hT (by rw [hr]; exact hres), hp, hx⟩

/-- The answer told with less. -/
theorem PF.weak {P : Program} {f : FuncId} {args : List AV} {x y : AV} (h : PF P f args (fun r => r = x)) (hs : Sub x y) (hy : Pur y) : PF P f args (fun r => r = y) :=
  ⟨h.cal, fun n K vs hn hr hv => (h.run n K vs hn hr hv).mono fun _ _ ⟨K', H', r, h1, h2, h3, h4, z, hr, _, hz⟩ => ⟨K', H', .ret y, h1, h2, h3, by
    subst hr hz
    cases h4 with
    | ret hv => exact .ret (hs _ _ hv), y, rfl, hy, rfl⟩⟩
/-- The arguments told with more. -/
theorem PF.args {P : Program} {f : FuncId} {as bs : List AV} {X : AV → Prop} (h : PF P f bs X) (hs : Subs as bs) : PF P f as X :=
  ⟨h.cal, fun n K vs hn hr hv => h.run n K vs hn hr (hs.VRs hv)⟩
end Go.Lg

/- The top: a function that only computes, called from any world. -/
set_option linter.unusedVariables false
set_option linter.unusedSimpArgs false
set_option linter.unusedSectionVars false
namespace Go.Lg
open Go Go.RowKit
def Ctx.top (w : World) : Ctx := ⟨fun _ => 0, fun _ => 0, fun _ => 0, 0, fun b => b < w.heap.size, w⟩
end Go.Lg

/- The walk's rules once more, fewer: what is only computed and what is read, by one function. -/
set_option linter.unusedVariables false
set_option linter.unusedSimpArgs false
set_option linter.unusedSectionVars false
namespace Go.Lg
open Go
/-- Slots by a list; all others are anything. -/
def sp : List (Nat × AV) → Nat → AV
  | [], _ => .any
  | (k, x) :: r, j => bif j == k then x else sp r j
theorem sp_nil (j : Nat) : sp [] j = .any := rfl
theorem sp_cons (k : Nat) (x : AV) (r : List (Nat × AV)) (j : Nat) : sp ((k, x) :: r) j = bif j == k then x else sp r j := rfl
def natO (tm : Nat → AV) : Option Operand → Option (Option Nat)
  | none => some none
  | some x => match evo tm x with
    | some (.int _ n) => if 0 ≤ n then some (some n.toNat) else none
    | _ => none
def pvz (T : TT) (tm : Nat → AV) (h : Heap) (op : Op) : Option AV := (pv T tm op).or (pvx T tm h op)
section
variable {P : Program} {B : Fb → Prop} {N m : Nat} {Q : AEx → St → Prop} {T : TT} {all rest : List Oper} {df : List Nat} {bb : Bool} {k : Nat} {tm : Nat → AV} {hp : Heap} {n : Nat}
  {d : Nat} {op : Op} {ty : TypeId} {pos : String} {af : Array Edge} {j : Nat} {want b : Bool} {x y : AV} {t : Nat}
theorem pvz_cases (hx : pvz T tm hp op = some x) : pv T tm op = some x ∨ pvx T tm hp op = some x := by
  unfold pvz at hx
  cases h : pv T tm op with
  | none => rw [h] at hx; exact .inr hx
  | some y => rw [h] at hx; exact .inl hx
theorem wz (hT : TOK P T) (hx : pvz T tm hp op = some x) (hd : d < N) (h : WL P B N m all rest Q ⟨upd tm d x, hp, n, df⟩) : WL P B N m all (⟨some d, op, ty, pos, af, none⟩ :: rest) Q ⟨tm, hp, n, df⟩ :=
  (pvz_cases hx).elim (fun h1 => wv hT h1 hd h) (fun h1 => wx hT h1 hd h)
theorem wzg (hT : TOK P T) (hg : gslot all j = some t) (ht : tm t = y) (hy : y = .bool want) (hx : pvz T tm hp op = some x) (hd : d < N) (h : WL P B N m all rest Q ⟨upd tm d x, hp, n, df⟩) : WL P B N m all (⟨some d, op, ty, pos, af, some (j, want)⟩ :: rest) Q ⟨tm, hp, n, df⟩ :=
  (pvz_cases hx).elim (fun h1 => wvg' hT hg ht hy h1 hd h) (fun h1 => wxg hT hg ht hy h1 hd h)
theorem wr_z (hT : TOK P T) (hx : pvz T tm hp op = some x) (hd : d < N) (h : WR P B N m all (AtH hp n) Q df bb (k + 1) rest (upd tm d x) hp n) : WR P B N m all (AtH hp n) Q df bb k (⟨some d, op, ty, pos, af, none⟩ :: rest) tm hp n :=
  (pvz_cases hx).elim (fun h1 => wr_v hT h1 hd h) (fun h1 => wr_x0 hT h1 hd h)
theorem wr_zg (hT : TOK P T) (hg : gslot all j = some t) (ht : tm t = y) (hy : y = .bool want) (hx : pvz T tm hp op = some x) (hd : d < N) (h : WR P B N m all (AtH hp n) Q df bb (k + 1) rest (upd tm d x) hp n) : WR P B N m all (AtH hp n) Q df bb k (⟨some d, op, ty, pos, af, some (j, want)⟩ :: rest) tm hp n :=
  (pvz_cases hx).elim (fun h1 => wr_vg hT hg ht hy h1 hd h) (fun h1 => wr_xg0 hT hg ht hy h1 hd h)
end
end Go.Lg


