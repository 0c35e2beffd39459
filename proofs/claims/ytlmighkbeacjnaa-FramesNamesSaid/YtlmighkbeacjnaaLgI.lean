/- Walk rules within regions that draw their order. -/
import Derived.Test.YtlmighkbeacjnaaLgH
set_option linter.unusedVariables false
set_option linter.unusedSimpArgs false
set_option linter.unusedSectionVars false
namespace Go.Lg
open Go

theorem evo_congr {tm tm' : Nat → AV} {x : Operand} (h : ∀ t, x = .tmp t → tm' t = tm t) : evo tm' x = evo tm x := by
  cases x with
  | tmp t => simp only [evo, h t rfl]
  | _ => rfl
theorem evs_congr {tm tm' : Nat → AV} : ∀ {l : List Operand}, (∀ t, Operand.tmp t ∈ l → tm' t = tm t) → evs tm' l = evs tm l
  | [], _ => rfl
  | x :: r, h => by
    unfold evs
    rw [evo_congr (x := x) (fun t e => h t (by simp [e])), evs_congr (l := r) (fun t e => h t (by simp [e]))]
theorem evp_congr {tm tm' : Nat → AV} : ∀ {l : List (Nat × Operand)}, (∀ t, Operand.tmp t ∈ l.map (·.2) → tm' t = tm t) → evp tm' l = evp tm l
  | [], _ => rfl
  | (i, x) :: r, h => by
    unfold evp
    rw [evo_congr (x := x) (fun t e => h t (by simp [e])), evp_congr (l := r) (fun t e => h t (by simp at e ⊢; exact .inr e))]
theorem pv_congr {T : TT} {tm tm' : Nat → AV} {op : Op} (h : ∀ t, Operand.tmp t ∈ op.operands.toList → tm' t = tm t) : pv T tm' op = pv T tm op := by
  cases op with
  | move x => exact evo_congr (fun t e => h t (by simp [Op.operands, e]))
  | assign x => exact evo_congr (fun t e => h t (by simp [Op.operands, e]))
  | pick c a b =>
    simp only [pv]
    rw [evo_congr (x := c) (fun t e => h t (by simp [Op.operands, e])), evo_congr (x := a) (fun t e => h t (by simp [Op.operands, e])), evo_congr (x := b) (fun t e => h t (by simp [Op.operands, e]))]
  | binOp op t x y ty =>
    simp only [pv]
    rw [evo_congr (x := x) (fun t e => h t (by simp [Op.operands, e])), evo_congr (x := y) (fun t e => h t (by simp [Op.operands, e]))]
  | unOp op t x => simp only [pv]; rw [evo_congr (x := x) (fun t e => h t (by simp [Op.operands, e]))]
  | convert s d x => simp only [pv]; rw [evo_congr (x := x) (fun t e => h t (by simp [Op.operands, e]))]
  | extract x i => simp only [pv]; rw [evo_congr (x := x) (fun t e => h t (by simp [Op.operands, e]))]
  | field s x f => simp only [pv]; rw [evo_congr (x := x) (fun t e => h t (by simp [Op.operands, e]))]
  | fieldAddr s x f => simp only [pv]; rw [evo_congr (x := x) (fun t e => h t (by simp [Op.operands, e]))]
  | load s x => simp only [pv]; rw [evo_congr (x := x) (fun t e => h t (by simp [Op.operands, e]))]
  | nilCheck x => simp only [pv]; rw [evo_congr (x := x) (fun t e => h t (by simp [Op.operands, e]))]
  | makeInterface s x => simp only [pv]; rw [evo_congr (x := x) (fun t e => h t (by simp [Op.operands, e]))]
  | makeFunc fn a b =>
    simp only [pv]
    rw [evs_congr (l := a.toList) (fun t e => h t (by simp [Op.operands] at e ⊢; exact .inl e)), evs_congr (l := b.toList) (fun t e => h t (by simp [Op.operands] at e ⊢; exact .inr e))]
  | call c =>
    simp only [pv]
    unfold pvCall
    split
    · rename_i x t
      rw [evo_congr (x := x) (fun t e => h t (by simp [Op.operands, Call.operands, e]))]
    · rfl
  | _ => rfl
theorem pvx_congr {T : TT} {tm tm' : Nat → AV} {hp : Heap} {op : Op} (h : ∀ t, Operand.tmp t ∈ op.operands.toList → tm' t = tm t) : pvx T tm' hp op = pvx T tm hp op := by
  cases op with
  | indexAddr s x y =>
    simp only [pvx]
    rw [evo_congr (x := x) (fun t e => h t (by simp [Op.operands, e])), evo_congr (x := y) (fun t e => h t (by simp [Op.operands, e]))]
  | index s x y =>
    simp only [pvx]
    rw [evo_congr (x := x) (fun t e => h t (by simp [Op.operands, e])), evo_congr (x := y) (fun t e => h t (by simp [Op.operands, e]))]
  | load s x => simp only [pvx]; rw [evo_congr (x := x) (fun t e => h t (by simp [Op.operands, e]))]
  | box s x => simp only [pvx]; rw [evo_congr (x := x) (fun t e => h t (by simp [Op.operands, e]))]
  | build s ps => simp only [pvx]; rw [evp_congr (l := ps.toList) (fun t e => h t (by simpa [Op.operands] using e))]
  | _ => rfl

section
variable {P : Program} {B : Fb → Prop} {N m : Nat} {Q : AEx → St → Prop}
theorem does_op {all : List Oper} {o : Oper} {i : Nat} {σ : St} {x : AV} {h' : Heap} {n' : Nat} (ho : all[i]? = some o) (hu : unguarded all o σ.tm true) (hd : ∀ t, o.dst = some t → t < N) (hdf : ∀ c, o.op ≠ .defer c) (hv : OpV P N o σ x h' n') :
    Does P B N m all.toArray i σ ⟨putT σ.tm o.dst x, h', n', σ.df⟩ := by
  intro l Q h K a hm hs
  obtain ⟨v, K', hr, hn, hrel, hst, hvr⟩ := hv K a hs
  have hE := hst.ext hs.rel
  refine mo_value (by simpa using ho) (wanted_of hs.tr hu) hdf hr ?_
  have hs' : SR K' N ⟨putT σ.tm o.dst x, h', n', σ.df⟩ (a.put o.dst v) := ⟨hn, hrel, (hs.tr.mono hE).put hd hvr, by rw [put_defers]; exact hs.dr.mono hE⟩
  exact (h K' _ (Nat.le_trans hm hst.next) hs').mono fun _ _ _ hq => hq.step (hst.stm hm)
theorem does_skip {all : List Oper} {o : Oper} {i : Nat} {σ : St} (ho : all[i]? = some o) (hu : unguarded all o σ.tm false) (hd : ∀ t, o.dst = some t → t < N) : Does P B N m all.toArray i σ ⟨putT σ.tm o.dst (.tuple []), σ.h, σ.n, σ.df⟩ := by
  intro l Q h K a hm hs
  refine mo_skip (by simpa using ho) (wanted_of hs.tr hu) ?_
  have hs' : SR K N ⟨putT σ.tm o.dst (.tuple []), σ.h, σ.n, σ.df⟩ (a.put o.dst undef) := ⟨hs.next, hs.rel, hs.tr.put hd (VR.undef_ K), by rw [put_defers]; exact hs.dr⟩
  exact h K _ hm hs'
theorem does_call {all : List Oper} {o : Oper} {i : Nat} {σ : St} {f : FuncId} {args : List AV} {y : AV} (ho : all[i]? = some o) (hu : unguarded all o σ.tm true) (hd : ∀ t, o.dst = some t → t < N) (hdf : ∀ c, o.op ≠ .defer c) (hc : OpC P N o σ f args) (hp : PF P f args (fun r => r = y)) :
    Does P B N m all.toArray i σ ⟨putT σ.tm o.dst y, σ.h, σ.n, σ.df⟩ := by
  intro l Q h K a hm hs
  obtain ⟨vs, hr, hvs⟩ := hc K a hs
  refine mo_call (by simpa using ho) (wanted_of hs.tr hu) hdf hr (ac_pure hp σ.h σ.n K vs hs.next hs.rel hvs) ?_
  rintro e w2 ⟨K', H', r, rfl, hrel, hst, hrr, rfl, hn, x, rfl, hpu, rfl⟩
  have hE := hst.ext hs.rel
  cases hrr with
  | @ret x v hv =>
    refine .inl ⟨v, rfl, ?_⟩
    have hs' : SR K' N ⟨putT σ.tm o.dst x, σ.h, σ.n, σ.df⟩ (a.put o.dst v) := ⟨hn, hrel, (hs.tr.mono hE).put hd hv, by rw [put_defers]; exact hs.dr.mono hE⟩
    exact (h K' _ (Nat.le_trans hm hst.next) hs').mono fun _ _ _ hq => hq.step (hst.stm hm)

variable {T : TT} {all rest : List Oper} {A : Nat → Heap → Nat → Prop} {k : Nat} {df : List Nat} {bb : Bool} {tm : Nat → AV} {hp hp' : Heap} {n n' : Nat}
  {d : Nat} {op : Op} {ty : TypeId} {pos : String} {af : Array Edge} {j : Nat} {want b : Bool} {x y : AV} {t : Nat}
theorem rd_op {o : Oper} {tm' : Nat → AV} (h : ∀ t, t ∈ rd all o → tm' t = tm t) : ∀ t, Operand.tmp t ∈ o.op.operands.toList → tm' t = tm t :=
  fun t ht => h t (by unfold rd; rw [List.mem_append]; exact .inr (mem_rdOf ht))
theorem rd_guard {o : Oper} {tm' : Nat → AV} (h : ∀ t, t ∈ rd all o → tm' t = tm t) (ho : o.guard = some (j, want)) (hg : gslot all j = some t) : tm' t = tm t :=
  h t (by unfold rd; rw [List.mem_append, ho]; left; simp [hg])
theorem wr_v (hT : TOK P T) (hx : pv T tm op = some x) (hd : d < N) (h : WR P B N m all A Q df bb (k + 1) rest (upd tm d x) hp n) : WR P B N m all A Q df bb k (⟨some d, op, ty, pos, af, none⟩ :: rest) tm hp n :=
  .op (fun tm' h n _ hr i hi => does_op hi (ung_none rfl) (fun _ h => by cases h; exact hd) (fun c h => by
    have h : op = .defer c := h
    rw [h] at hx; cases hx) (pv_sound hT (by rw [← hx]; exact pv_congr (rd_op (o := ⟨some d, op, ty, pos, af, none⟩) hr)))) h
theorem wr_vg (hT : TOK P T) (hg : gslot all j = some t) (ht : tm t = y) (hy : y = .bool want) (hx : pv T tm op = some x) (hd : d < N) (h : WR P B N m all A Q df bb (k + 1) rest (upd tm d x) hp n) : WR P B N m all A Q df bb k (⟨some d, op, ty, pos, af, some (j, want)⟩ :: rest) tm hp n :=
  .op (fun tm' h n _ hr i hi => does_op hi (by
    have := ung_some (o := ⟨some d, op, ty, pos, af, some (j, want)⟩) (tm := tm') rfl hg ((rd_guard (o := ⟨some d, op, ty, pos, af, some (j, want)⟩) hr rfl hg).trans (ht.trans hy)); simpa using this) (fun _ h => by cases h; exact hd) (fun c h => by
    have h : op = .defer c := h
    rw [h] at hx; cases hx) (pv_sound hT (by rw [← hx]; exact pv_congr (rd_op (o := ⟨some d, op, ty, pos, af, some (j, want)⟩) hr)))) h
theorem wr_x (hT : TOK P T) (hx : ∀ h' n', A k h' n' → pvx T tm h' op = some x) (hne : ∀ c, op ≠ .defer c) (hd : d < N) (h : WR P B N m all A Q df bb (k + 1) rest (upd tm d x) hp n) : WR P B N m all A Q df bb k (⟨some d, op, ty, pos, af, none⟩ :: rest) tm hp n :=
  .op (fun tm' h n hA hr i hi => does_op hi (ung_none rfl) (fun _ h => by cases h; exact hd) (fun c h => hne c h) (pvx_sound hT (by rw [← hx h n hA]; exact pvx_congr (rd_op (o := ⟨some d, op, ty, pos, af, none⟩) hr)))) h
theorem wr_xg (hT : TOK P T) (hg : gslot all j = some t) (ht : tm t = y) (hy : y = .bool want) (hx : ∀ h' n', A k h' n' → pvx T tm h' op = some x) (hne : ∀ c, op ≠ .defer c) (hd : d < N) (h : WR P B N m all A Q df bb (k + 1) rest (upd tm d x) hp n) : WR P B N m all A Q df bb k (⟨some d, op, ty, pos, af, some (j, want)⟩ :: rest) tm hp n :=
  .op (fun tm' h n hA hr i hi => does_op hi (by
    have := ung_some (o := ⟨some d, op, ty, pos, af, some (j, want)⟩) (tm := tm') rfl hg ((rd_guard (o := ⟨some d, op, ty, pos, af, some (j, want)⟩) hr rfl hg).trans (ht.trans hy)); simpa using this) (fun _ h => by cases h; exact hd) (fun c h => hne c h) (pvx_sound hT (by rw [← hx h n hA]; exact pvx_congr (rd_op (o := ⟨some d, op, ty, pos, af, some (j, want)⟩) hr)))) h
theorem wr_skip (hg : gslot all j = some t) (ht : tm t = y) (hy : isOff want y = true) (hd : d < N) (h : WR P B N m all A Q df bb (k + 1) rest (upd tm d (.tuple [])) hp n) : WR P B N m all A Q df bb k (⟨some d, op, ty, pos, af, some (j, want)⟩ :: rest) tm hp n :=
  .op (fun tm' h n _ hr i hi => does_skip hi (ung_off (o := ⟨some d, op, ty, pos, af, some (j, want)⟩) (tm := tm') rfl hg ((rd_guard (o := ⟨some d, op, ty, pos, af, some (j, want)⟩) hr rfl hg).trans ht) hy) (fun _ h => by cases h; exact hd)) h
theorem wr_split {o : Option Tmp} (_ : gslot all j = some t) (ht : tm t = .bool b) (h : (b = true → WR P B N m all A Q df bb k (⟨o, op, ty, pos, af, some (j, want)⟩ :: rest) (upd tm t (.bool true)) hp n) ∧ (b = false → WR P B N m all A Q df bb k (⟨o, op, ty, pos, af, some (j, want)⟩ :: rest) (upd tm t (.bool false)) hp n)) :
    WR P B N m all A Q df bb k (⟨o, op, ty, pos, af, some (j, want)⟩ :: rest) tm hp n := by
  cases b with
  | true => have := h.1 rfl; rwa [upd_self ht] at this
  | false => have := h.2 rfl; rwa [upd_self ht] at this
theorem opc_congr {fo : Operand} {args : Array Operand} {ats : Array TypeId} {g : FuncId} {first cap xs : List AV} {o : Oper} {tm' : Nat → AV} {h : Heap} {n : Nat} {df : List Nat} (hop : o.op = .call { callee := .value fo, args := args, argTypes := ats }) (hr : ∀ t, t ∈ rd all o → tm' t = tm t) (hf : evo tm fo = some (.func (.func g) first cap)) (hx : evs tm args.toList = some xs) (hc : Callable P g) :
    OpC P N o ⟨tm', h, n, df⟩ g (first ++ xs ++ cap) := by
  have h1 := rd_op hr
  rw [hop] at h1
  exact opc_call hop (by rw [← hf]; exact evo_congr fun t e => h1 t (by simp [Op.operands, Call.operands, e])) (by rw [← hx]; exact evs_congr fun t e => h1 t (by simp [Op.operands, Call.operands] at e ⊢; exact .inr e)) hc (Subs.refl _)
theorem wr_call {fo : Operand} {args : Array Operand} {ats : Array TypeId} {g : FuncId} {first cap xs as : List AV} (hf : evo tm fo = some (.func (.func g) first cap)) (hx : evs tm args.toList = some xs) (ha : first ++ xs ++ cap = as) (hpf : PF P g as (fun r => r = y)) (hd : d < N)
    (h : WR P B N m all A Q df bb (k + 1) rest (upd tm d y) hp n) : WR P B N m all A Q df bb k (⟨some d, .call { callee := .value fo, args := args, argTypes := ats }, ty, pos, af, none⟩ :: rest) tm hp n := by
  subst ha
  exact .op (fun tm' h n _ hr i hi => does_call hi (ung_none rfl) (fun _ h => by cases h; exact hd) (fun c h => by cases h) (opc_congr rfl hr hf hx hpf.cal) hpf) h
theorem wr_callg {z : AV} {fo : Operand} {args : Array Operand} {ats : Array TypeId} {g : FuncId} {first cap xs as : List AV} (hg : gslot all j = some t) (ht : tm t = z) (hy : z = .bool want) (hf : evo tm fo = some (.func (.func g) first cap)) (hx : evs tm args.toList = some xs) (ha : first ++ xs ++ cap = as) (hpf : PF P g as (fun r => r = y)) (hd : d < N)
    (h : WR P B N m all A Q df bb (k + 1) rest (upd tm d y) hp n) : WR P B N m all A Q df bb k (⟨some d, .call { callee := .value fo, args := args, argTypes := ats }, ty, pos, af, some (j, want)⟩ :: rest) tm hp n := by
  subst ha
  exact .op (fun tm' h n _ hr i hi => does_call hi (by
    have := ung_some (o := ⟨some d, .call { callee := .value fo, args := args, argTypes := ats }, ty, pos, af, some (j, want)⟩) (tm := tm') rfl hg ((rd_guard (o := ⟨some d, .call { callee := .value fo, args := args, argTypes := ats }, ty, pos, af, some (j, want)⟩) hr rfl hg).trans (ht.trans hy)); simpa using this) (fun _ h => by cases h; exact hd) (fun c h => by cases h) (opc_congr rfl hr hf hx hpf.cal) hpf) h
/-- A store: the region's one change. -/
theorem wr_store {a c : Operand} {u v : AV} (hT : TOK P T) (hu : evo tm a = some u) (hv : evo tm c = some v) (hs : hvStore T hp t u v = some hp') (hA : ∀ j, (must all 3 k j = false → A j hp n) ∧ (must all 3 j k = false → A j hp' n)) (h : WR P B N m all A Q df true (k + 1) rest tm hp' n) : WR P B N m all A Q df false k (⟨none, .store t a c, ty, pos, af, none⟩ :: rest) tm hp n := by
  unfold hvStore at hs
  split at hs
  · rename_i i id off ht
    split at hs
    · rename_i cs e hH
      split at hs
      · rename_i h1
        split at hs
        · rename_i h2
          split at hs
          · rename_i h3
            cases hs
            refine .eff (x := .tuple []) (fun tm' hr i hi => does_op (x := .tuple []) hi (ung_none rfl) (fun _ h => by cases h) (fun c h => by cases h) (opv_store hT rfl ?_ ?_ hH ht h1 h2 (by simpa [List.all_eq_true] using h3))) hA h
            · rw [← hu]; exact evo_congr fun t e => rd_op hr t (by simp [Op.operands, e])
            · rw [← hv]; exact evo_congr fun t e => rd_op hr t (by simp [Op.operands, e])
          · cases hs
        · cases hs
      · cases hs
    · cases hs
  · cases hs
end
/-! calls with the arguments' list found first -/
section
variable {P : Program} {B : Fb → Prop} {N m : Nat} {all rest : List Oper} {Q : AEx → St → Prop} {tm : Nat → AV} {hp : Heap} {n : Nat} {df : List Nat} {d : Nat} {ty : TypeId} {pos : String} {af : Array Edge} {j : Nat} {want : Bool} {y z : AV} {t : Nat}
theorem wcall' {fo : Operand} {args : Array Operand} {ats : Array TypeId} {g : FuncId} {first cap xs as : List AV} (hf : evo tm fo = some (.func (.func g) first cap)) (hx : evs tm args.toList = some xs) (ha : first ++ xs ++ cap = as) (hpf : PF P g as (fun r => r = y)) (hd : d < N)
    (h : WL P B N m all rest Q ⟨upd tm d y, hp, n, df⟩) : WL P B N m all (⟨some d, .call { callee := .value fo, args := args, argTypes := ats }, ty, pos, af, none⟩ :: rest) Q ⟨tm, hp, n, df⟩ :=
  wcall hf hx (by rw [ha]; exact hpf) hd (fun x hx _ => by cases hx; exact h)
theorem wcallg' {fo : Operand} {args : Array Operand} {ats : Array TypeId} {g : FuncId} {first cap xs as : List AV} (hg : gslot all j = some t) (ht : tm t = z) (hy : z = .bool want) (hf : evo tm fo = some (.func (.func g) first cap)) (hx : evs tm args.toList = some xs) (ha : first ++ xs ++ cap = as) (hpf : PF P g as (fun r => r = y)) (hd : d < N)
    (h : WL P B N m all rest Q ⟨upd tm d y, hp, n, df⟩) : WL P B N m all (⟨some d, .call { callee := .value fo, args := args, argTypes := ats }, ty, pos, af, some (j, want)⟩ :: rest) Q ⟨tm, hp, n, df⟩ :=
  wcallg hg ht hy hf hx (by rw [ha]; exact hpf) hd (fun x hx _ => by cases hx; exact h)
end
end Go.Lg
