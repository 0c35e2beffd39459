/- Walk rules within regions that draw their order and change own memory more than once. -/
import Derived.Test.YtlmighkbeacjnaaLgT
set_option linter.unusedVariables false
set_option linter.unusedSimpArgs false
set_option linter.unusedSectionVars false
namespace Go.Lg
open Go
section
variable {P : Program} {B : Fb → Prop} {N m : Nat} {Q : AEx → St → Prop} {T : TT} {all : List Oper} {E : List Nat} {df : List Nat} {s : Nat} {G : List (Heap × Nat)} {ob : List (Nat × (Heap → Prop))} {rest : List (Nat × Oper)} {tm : Nat → AV} {hp hp' : Heap} {n n' : Nat}
  {i d : Nat} {op : Op} {ty : TypeId} {pos : String} {af : Array Edge} {j : Nat} {want b : Bool} {x y z : AV} {t : Nat}
theorem m_next {L : List Nat} {o : Oper} (ho : all[i]? = some o) (h : WM P B N m all E Q df s G ob ((i, o) :: prs all L) tm hp n) : WM P B N m all E Q df s G ob (prs all (i :: L)) tm hp n := by
  have : prs all (i :: L) = (i, o) :: prs all L := by simp [prs, ho]
  rw [this]; exact h
theorem m_nil (hs : s = E.length) (hob : ∀ p, p ∈ ob → ∀ s g, ((hp, n) :: G).reverse[s]? = some g → allowed all E p.1 s = true → p.2 g.1) (hq : Q .normal ⟨tm, hp, n, df⟩) : WM P B N m all E Q df s G ob (prs all []) tm hp n := .nil hs hob hq
theorem m_nil0 (hs : s = E.length) (hq : Q .normal ⟨tm, hp, n, df⟩) : WM P B N m all E Q df s G [] (prs all []) tm hp n := .nil hs (fun _ h => by cases h) hq
theorem m_v (hT : TOK P T) (hi : E.contains i = false) (hx : pv T tm op = some x) (hd : d < N) (h : WM P B N m all E Q df s G ob rest (upd tm d x) hp n) : WM P B N m all E Q df s G ob ((i, ⟨some d, op, ty, pos, af, none⟩) :: rest) tm hp n :=
  .opT hi (fun tm' h n _ hr i hi => does_op hi (ung_none rfl) (fun _ h => by cases h; exact hd) (fun c h => by
    have h : op = .defer c := h
    rw [h] at hx; cases hx) (pv_sound hT (by rw [← hx]; exact pv_congr (rd_op (o := ⟨some d, op, ty, pos, af, none⟩) hr)))) h
theorem m_vg (hT : TOK P T) (hi : E.contains i = false) (hg : gslot all j = some t) (ht : tm t = y) (hy : y = .bool want) (hx : pv T tm op = some x) (hd : d < N) (h : WM P B N m all E Q df s G ob rest (upd tm d x) hp n) : WM P B N m all E Q df s G ob ((i, ⟨some d, op, ty, pos, af, some (j, want)⟩) :: rest) tm hp n :=
  .opT hi (fun tm' h n _ hr i hi => does_op hi (by
    have := ung_some (o := ⟨some d, op, ty, pos, af, some (j, want)⟩) (tm := tm') rfl hg ((rd_guard (o := ⟨some d, op, ty, pos, af, some (j, want)⟩) hr rfl hg).trans (ht.trans hy)); simpa using this) (fun _ h => by cases h; exact hd) (fun c h => by
    have h : op = .defer c := h
    rw [h] at hx; cases hx) (pv_sound hT (by rw [← hx]; exact pv_congr (rd_op (o := ⟨some d, op, ty, pos, af, some (j, want)⟩) hr)))) h
theorem pvx_ndefer {h : Heap} (hx : pvx T tm h op = some x) : ∀ c, op ≠ .defer c := fun c e => by rw [e] at hx; cases hx
/-- What reads own memory, and can come at this stage alone. -/
theorem m_x (hT : TOK P T) (hi : E.contains i = false) (ho : ((List.range (E.length + 1)).all fun j => !allowed all E i j || Nat.beq j s) = true) (hx : pvx T tm hp op = some x) (hd : d < N) (h : WM P B N m all E Q df s G ob rest (upd tm d x) hp n) : WM P B N m all E Q df s G ob ((i, ⟨some d, op, ty, pos, af, none⟩) :: rest) tm hp n :=
  .opO hi ho (fun tm' h' n' ⟨e1, e2⟩ hr i hi => by
    subst e1 e2
    exact does_op hi (ung_none rfl) (fun _ h => by cases h; exact hd) (pvx_ndefer hx) (pvx_sound hT (by rw [← hx]; exact pvx_congr (rd_op (o := ⟨some d, op, ty, pos, af, none⟩) hr)))) h
theorem m_xg (hT : TOK P T) (hi : E.contains i = false) (ho : ((List.range (E.length + 1)).all fun j => !allowed all E i j || Nat.beq j s) = true) (hg : gslot all j = some t) (ht : tm t = y) (hy : y = .bool want) (hx : pvx T tm hp op = some x) (hd : d < N) (h : WM P B N m all E Q df s G ob rest (upd tm d x) hp n) : WM P B N m all E Q df s G ob ((i, ⟨some d, op, ty, pos, af, some (j, want)⟩) :: rest) tm hp n :=
  .opO hi ho (fun tm' h' n' ⟨e1, e2⟩ hr i hi => by
    subst e1 e2
    exact does_op hi (by
      have := ung_some (o := ⟨some d, op, ty, pos, af, some (j, want)⟩) (tm := tm') rfl hg ((rd_guard (o := ⟨some d, op, ty, pos, af, some (j, want)⟩) hr rfl hg).trans (ht.trans hy)); simpa using this) (fun _ h => by cases h; exact hd) (pvx_ndefer hx) (pvx_sound hT (by rw [← hx]; exact pvx_congr (rd_op (o := ⟨some d, op, ty, pos, af, some (j, want)⟩) hr)))) h
/-- What doesn't look at own memory at all. -/
theorem m_xA (hT : TOK P T) (hi : E.contains i = false) (hx : ∀ h', pvx T tm h' op = some x) (hd : d < N) (h : WM P B N m all E Q df s G ob rest (upd tm d x) hp n) : WM P B N m all E Q df s G ob ((i, ⟨some d, op, ty, pos, af, none⟩) :: rest) tm hp n :=
  .opT hi (fun tm' h' n' _ hr i hi => does_op hi (ung_none rfl) (fun _ h => by cases h; exact hd) (pvx_ndefer (hx h')) (pvx_sound hT (by rw [← hx h']; exact pvx_congr (rd_op (o := ⟨some d, op, ty, pos, af, none⟩) hr)))) h
theorem m_xgA (hT : TOK P T) (hi : E.contains i = false) (hg : gslot all j = some t) (ht : tm t = y) (hy : y = .bool want) (hx : ∀ h', pvx T tm h' op = some x) (hd : d < N) (h : WM P B N m all E Q df s G ob rest (upd tm d x) hp n) : WM P B N m all E Q df s G ob ((i, ⟨some d, op, ty, pos, af, some (j, want)⟩) :: rest) tm hp n :=
  .opT hi (fun tm' h' n' _ hr i hi => does_op hi (by
      have := ung_some (o := ⟨some d, op, ty, pos, af, some (j, want)⟩) (tm := tm') rfl hg ((rd_guard (o := ⟨some d, op, ty, pos, af, some (j, want)⟩) hr rfl hg).trans (ht.trans hy)); simpa using this) (fun _ h => by cases h; exact hd) (pvx_ndefer (hx h')) (pvx_sound hT (by rw [← hx h']; exact pvx_congr (rd_op (o := ⟨some d, op, ty, pos, af, some (j, want)⟩) hr)))) h
/-- What reads own memory: the same at each stage that it may come at is owed. -/
theorem m_xo (hT : TOK P T) (hi : E.contains i = false) (hx : pvx T tm hp op = some x) (hd : d < N) (h : WM P B N m all E Q df s G ((i, fun h' => pvx T tm h' op = some x) :: ob) rest (upd tm d x) hp n) : WM P B N m all E Q df s G ob ((i, ⟨some d, op, ty, pos, af, none⟩) :: rest) tm hp n :=
  .op (C := fun h' => pvx T tm h' op = some x) hi (fun tm' h' n' hc hr i hi => does_op hi (ung_none rfl) (fun _ h => by cases h; exact hd) (pvx_ndefer hx) (pvx_sound hT (by rw [← hc]; exact pvx_congr (rd_op (o := ⟨some d, op, ty, pos, af, none⟩) hr)))) h
theorem m_xog (hT : TOK P T) (hi : E.contains i = false) (hg : gslot all j = some t) (ht : tm t = y) (hy : y = .bool want) (hx : pvx T tm hp op = some x) (hd : d < N) (h : WM P B N m all E Q df s G ((i, fun h' => pvx T tm h' op = some x) :: ob) rest (upd tm d x) hp n) : WM P B N m all E Q df s G ob ((i, ⟨some d, op, ty, pos, af, some (j, want)⟩) :: rest) tm hp n :=
  .op (C := fun h' => pvx T tm h' op = some x) hi (fun tm' h' n' hc hr i hi => does_op hi (by
      have := ung_some (o := ⟨some d, op, ty, pos, af, some (j, want)⟩) (tm := tm') rfl hg ((rd_guard (o := ⟨some d, op, ty, pos, af, some (j, want)⟩) hr rfl hg).trans (ht.trans hy)); simpa using this) (fun _ h => by cases h; exact hd) (pvx_ndefer hx) (pvx_sound hT (by rw [← hc]; exact pvx_congr (rd_op (o := ⟨some d, op, ty, pos, af, some (j, want)⟩) hr)))) h
theorem m_skip (hi : E.contains i = false) (hg : gslot all j = some t) (ht : tm t = y) (hy : isOff want y = true) (hd : d < N) (h : WM P B N m all E Q df s G ob rest (upd tm d (.tuple [])) hp n) : WM P B N m all E Q df s G ob ((i, ⟨some d, op, ty, pos, af, some (j, want)⟩) :: rest) tm hp n :=
  .opT hi (fun tm' h n _ hr i hi => does_skip hi (ung_off (o := ⟨some d, op, ty, pos, af, some (j, want)⟩) (tm := tm') rfl hg ((rd_guard (o := ⟨some d, op, ty, pos, af, some (j, want)⟩) hr rfl hg).trans ht) hy) (fun _ h => by cases h; exact hd)) h
theorem m_split {o : Option Tmp} (_ : gslot all j = some t) (ht : tm t = .bool b) (h : (b = true → WM P B N m all E Q df s G ob ((i, ⟨o, op, ty, pos, af, some (j, want)⟩) :: rest) (upd tm t (.bool true)) hp n) ∧ (b = false → WM P B N m all E Q df s G ob ((i, ⟨o, op, ty, pos, af, some (j, want)⟩) :: rest) (upd tm t (.bool false)) hp n)) :
    WM P B N m all E Q df s G ob ((i, ⟨o, op, ty, pos, af, some (j, want)⟩) :: rest) tm hp n := by
  cases b with
  | true => have := h.1 rfl; rwa [upd_self ht] at this
  | false => have := h.2 rfl; rwa [upd_self ht] at this
theorem m_call {fo : Operand} {args : Array Operand} {ats : Array TypeId} {g : FuncId} {first cap xs as : List AV} (hi : E.contains i = false) (hf : evo tm fo = some (.func (.func g) first cap)) (hx : evs tm args.toList = some xs) (ha : first ++ xs ++ cap = as) (hpf : PF P g as (fun r => r = y)) (hd : d < N)
    (h : WM P B N m all E Q df s G ob rest (upd tm d y) hp n) : WM P B N m all E Q df s G ob ((i, ⟨some d, .call { callee := .value fo, args := args, argTypes := ats }, ty, pos, af, none⟩) :: rest) tm hp n := by
  subst ha
  exact .opT hi (fun tm' h n _ hr i hi => does_call hi (ung_none rfl) (fun _ h => by cases h; exact hd) (fun c h => by cases h) (opc_congr rfl hr hf hx hpf.cal) hpf) h
theorem m_callg {fo : Operand} {args : Array Operand} {ats : Array TypeId} {g : FuncId} {first cap xs as : List AV} (hi : E.contains i = false) (hg : gslot all j = some t) (ht : tm t = z) (hy : z = .bool want) (hf : evo tm fo = some (.func (.func g) first cap)) (hx : evs tm args.toList = some xs) (ha : first ++ xs ++ cap = as) (hpf : PF P g as (fun r => r = y)) (hd : d < N)
    (h : WM P B N m all E Q df s G ob rest (upd tm d y) hp n) : WM P B N m all E Q df s G ob ((i, ⟨some d, .call { callee := .value fo, args := args, argTypes := ats }, ty, pos, af, some (j, want)⟩) :: rest) tm hp n := by
  subst ha
  exact .opT hi (fun tm' h n _ hr i hi => does_call hi (by
    have := ung_some (o := ⟨some d, .call { callee := .value fo, args := args, argTypes := ats }, ty, pos, af, some (j, want)⟩) (tm := tm') rfl hg ((rd_guard (o := ⟨some d, .call { callee := .value fo, args := args, argTypes := ats }, ty, pos, af, some (j, want)⟩) hr rfl hg).trans (ht.trans hy)); simpa using this) (fun _ h => by cases h; exact hd) (fun c h => by cases h) (opc_congr rfl hr hf hx hpf.cal) hpf) h
theorem m_p (hi : E.contains i = false) (hx : Pure P tm op x) (hd : d < N) (h : WM P B N m all E Q df s G ob rest (upd tm d x) hp n) : WM P B N m all E Q df s G ob ((i, ⟨some d, op, ty, pos, af, none⟩) :: rest) tm hp n :=
  .opT hi (fun tm' h n _ hr i hi => does_op hi (ung_none rfl) (fun _ h => by cases h; exact hd) hx.1 (hx.2 N ⟨some d, op, ty, pos, af, none⟩ tm' h n df rfl (rd_op (o := ⟨some d, op, ty, pos, af, none⟩) hr))) h
theorem m_pg (hi : E.contains i = false) (hg : gslot all j = some t) (ht : tm t = y) (hy : y = .bool want) (hx : Pure P tm op x) (hd : d < N) (h : WM P B N m all E Q df s G ob rest (upd tm d x) hp n) : WM P B N m all E Q df s G ob ((i, ⟨some d, op, ty, pos, af, some (j, want)⟩) :: rest) tm hp n :=
  .opT hi (fun tm' h n _ hr i hi => does_op hi (by
    have := ung_some (o := ⟨some d, op, ty, pos, af, some (j, want)⟩) (tm := tm') rfl hg ((rd_guard (o := ⟨some d, op, ty, pos, af, some (j, want)⟩) hr rfl hg).trans (ht.trans hy)); simpa using this) (fun _ h => by cases h; exact hd) hx.1 (hx.2 N ⟨some d, op, ty, pos, af, some (j, want)⟩ tm' h n df rfl (rd_op (o := ⟨some d, op, ty, pos, af, some (j, want)⟩) hr))) h

/-! changes -/
/-- An operation that changes own memory so, wherever its operands are these. -/
def Chg (P : Program) (N : Nat) (tm : Nat → AV) (op : Op) (h : Heap) (n : Nat) (x : AV) (h' : Heap) (n' : Nat) : Prop :=
  (∀ c, op ≠ .defer c) ∧ ∀ (o : Oper) (tm' : Nat → AV) (df : List Nat), o.op = op → (∀ t, Operand.tmp t ∈ op.operands.toList → tm' t = tm t) → OpV P N o ⟨tm', h, n, df⟩ x h' n'
theorem m_chg (he : E[s]? = some i) (hx : Chg P N tm op hp n x hp' n') (hd : d < N) (h : WM P B N m all E Q df (s + 1) ((hp, n) :: G) ob rest (upd tm d x) hp' n') : WM P B N m all E Q df s G ob ((i, ⟨some d, op, ty, pos, af, none⟩) :: rest) tm hp n :=
  .eff he (fun tm' hr i hi => does_op hi (ung_none rfl) (fun _ h => by cases h; exact hd) hx.1 (hx.2 ⟨some d, op, ty, pos, af, none⟩ tm' df rfl (rd_op (o := ⟨some d, op, ty, pos, af, none⟩) hr))) h
theorem m_chg0 (he : E[s]? = some i) (hx : Chg P N tm op hp n x hp' n') (h : WM P B N m all E Q df (s + 1) ((hp, n) :: G) ob rest tm hp' n') : WM P B N m all E Q df s G ob ((i, ⟨none, op, ty, pos, af, none⟩) :: rest) tm hp n :=
  .eff he (fun tm' hr i hi => does_op (x := x) hi (ung_none rfl) (fun _ h => by cases h) hx.1 (hx.2 ⟨none, op, ty, pos, af, none⟩ tm' df rfl (rd_op (o := ⟨none, op, ty, pos, af, none⟩) hr))) h
theorem l_chg (hx : Chg P N tm op hp n x hp' n') (hd : d < N) {rest all : List Oper} (h : WL P B N m all rest Q ⟨upd tm d x, hp', n', df⟩) : WL P B N m all (⟨some d, op, ty, pos, af, none⟩ :: rest) Q ⟨tm, hp, n, df⟩ :=
  wl_op (o := ⟨some d, op, ty, pos, af, none⟩) (ung_none rfl) (fun _ h => by cases h; exact hd) hx.1 (hx.2 ⟨some d, op, ty, pos, af, none⟩ tm df rfl (fun _ _ => rfl)) h
theorem l_chg0 (hx : Chg P N tm op hp n x hp' n') {rest all : List Oper} (h : WL P B N m all rest Q ⟨tm, hp', n', df⟩) : WL P B N m all (⟨none, op, ty, pos, af, none⟩ :: rest) Q ⟨tm, hp, n, df⟩ :=
  wl_op (o := ⟨none, op, ty, pos, af, none⟩) (x := x) (ung_none rfl) (fun _ h => by cases h) hx.1 (hx.2 ⟨none, op, ty, pos, af, none⟩ tm df rfl (fun _ _ => rfl)) h
theorem c_alloc (hT : TOK P T) {i : TI} (ht : T t = some i) : Chg P N tm (.alloc t) hp n (.ptr n 0) (upd hp n (some (.cells i.zero t))) (n + 1) :=
  ⟨fun c h => (by cases h), fun o tm' df ho hr => opv_alloc hT (σ := ⟨tm', hp, n, df⟩) ho ht⟩
theorem c_box {a : Operand} (hx : evo tm a = some x) (hk : known x = true) : Chg P N tm (.box t a) hp n (.ptr n 0) (upd hp n (some (.cells (cellsA x) t))) (n + 1) :=
  ⟨fun c h => (by cases h), fun o tm' df ho hr => opv_box (σ := ⟨tm', hp, n, df⟩) ho (by rw [← hx]; exact evo_congr fun t e => hr t (by simp [Op.operands, e])) hk⟩
theorem c_store (hT : TOK P T) {a c : Operand} {u v : AV} (hu : evo tm a = some u) (hv : evo tm c = some v) (hs : hvStore T hp t u v = some hp') : Chg P N tm (.store t a c) hp n (.tuple []) hp' n := by
  refine ⟨fun c h => (by cases h), fun o tm' df ho hr => ?_⟩
  unfold hvStore at hs
  split at hs
  · rename_i i id off ht
    split at hs
    · rename_i cs e hH
      split at hs
      · rename_i h1
        split at hs
        · rename_i h2
          split at hs
          · rename_i h3
            cases hs
            refine opv_store hT (σ := ⟨tm', hp, n, df⟩) ho ?_ ?_ hH ht h1 h2 (by simpa [List.all_eq_true] using h3)
            · rw [← hu]; exact evo_congr fun t e => hr t (by simp [Op.operands, e])
            · rw [← hv]; exact evo_congr fun t e => hr t (by simp [Op.operands, e])
          · cases hs
        · cases hs
      · cases hs
    · cases hs
  · cases hs
theorem c_ap {c : Call} (h1 : ∀ o : Oper, o.op = .call c → ∀ tm', (∀ t, Operand.tmp t ∈ o.op.operands.toList → tm' t = tm t) → ∀ df, OpV P N o ⟨tm', hp, n, df⟩ x hp' n') : Chg P N tm (.call c) hp n x hp' n' :=
  ⟨fun c h => (by cases h), fun o tm' df ho hr => h1 o ho tm' (by rw [ho]; exact hr) df⟩
end
inductive AllW (p : List Nat → List Nat → Prop) : List (List Nat × List Nat) → Prop
  | nil : AllW p []
  | cons {a b : List Nat} {l : List (List Nat × List Nat)} (h : p a b) (hs : AllW p l) : AllW p ((a, b) :: l)
theorem fm_nil {p : List Nat → List Nat → Prop} : AllW p [] := .nil
theorem fm_cons {p : List Nat → List Nat → Prop} {a b : List Nat} {l : List (List Nat × List Nat)} (h : p a b) (hs : AllW p l) : AllW p ((a, b) :: l) := .cons h hs
theorem AllW.mem {p : List Nat → List Nat → Prop} {l : List (List Nat × List Nat)} (h : AllW p l) : ∀ w, w ∈ l → p w.1 w.2 := by
  induction h with
  | nil => intro w h; cases h
  | cons h hs ih =>
    intro w hw
    rcases List.mem_cons.1 hw with rfl | hw
    · exact h
    · exact ih w hw
/-- The orders, told with their walks' lists. -/
theorem w_drawNR {P : Program} {B : Fb → Prop} {N m : Nat} {Q : AEx → St → Prop} {df : List Nat} {id : Nat} {ops : Array Oper} {R : Nat → Nat → Bool} (hR : ∀ d e, R d e = true → ∃ f, must ops.toList f d e = true) (E : List Nat) (Ws : List (List Nat × List Nat)) {tm : Nat → AV} {h : Heap} {n : Nat} (hmx : P.follows .mixedOrders = true)
    (hd : (drawOk ops.toList && ((E.all fun e => decide (e < ops.toList.length)) && (decide E.Nodup && (((ordersR R E.length E).all fun π => Ws.any fun w => w.1 == π) &&
      (Ws.all fun w => edgeOk ops.toList.length [] (prs ops.toList w.2) && (decide w.1.Nodup && ((w.1.all E.contains) && (E.all w.1.contains)))))))) = true)
    (hw : AllW (fun E' L => WM P B N m ops.toList E' Q df 0 [] [] (prs ops.toList L) tm h n) Ws) : W P B N m (.region id ops true) Q ⟨tm, h, n, df⟩ := by
  simp only [Bool.and_eq_true, decide_eq_true_eq] at hd
  obtain ⟨h1, h2, h3, h4, h5⟩ := hd
  refine w_drawMR hR E hmx h1 h3 h2 fun π hπ => ?_
  have := List.all_eq_true.1 h4 π hπ
  rw [List.any_eq_true] at this
  obtain ⟨w, hm, e⟩ := this
  have e : w.1 = π := by simpa using e
  have h6 := List.all_eq_true.1 h5 w hm
  simp only [Bool.and_eq_true, decide_eq_true_eq, List.all_eq_true] at h6
  obtain ⟨g1, g2, g3, g4⟩ := h6
  subst e
  exact ⟨w.2, g1, ⟨g2, fun e => ⟨fun h => by simpa using g3 e h, fun h => by simpa using g4 e h⟩⟩, hw.mem w hm⟩
theorem w_drawN {P : Program} {B : Fb → Prop} {N m : Nat} {Q : AEx → St → Prop} {df : List Nat} {id : Nat} {ops : Array Oper} (E : List Nat) (Ws : List (List Nat × List Nat)) {tm : Nat → AV} {h : Heap} {n : Nat} (hmx : P.follows .mixedOrders = true)
    (hd : (drawOk ops.toList && ((E.all fun e => decide (e < ops.toList.length)) && (decide E.Nodup && (((orders ops.toList E.length E).all fun π => Ws.any fun w => w.1 == π) &&
      (Ws.all fun w => edgeOk ops.toList.length [] (prs ops.toList w.2) && (decide w.1.Nodup && ((w.1.all E.contains) && (E.all w.1.contains)))))))) = true)
    (hw : AllW (fun E' L => WM P B N m ops.toList E' Q df 0 [] [] (prs ops.toList L) tm h n) Ws) : W P B N m (.region id ops true) Q ⟨tm, h, n, df⟩ :=
  w_drawNR (fun _ _ h => ⟨3, h⟩) E Ws hmx hd hw
/-! what must come first, by a table -/
def ancG : List Oper → List (List Nat) → List (List Nat)
  | [], acc => acc
  | o :: r, acc => ancG r (acc ++ [(List.range acc.length).filter fun d => o.after.toList.any fun e => Region.binds .any e && (Nat.beq e.on d || (acc.getD e.on []).contains d)])
def inAnc (t : List (List Nat)) (d j : Nat) : Bool := (t.getD j []).contains d
theorem ancG_ok {all : List Oper} : ∀ (r pre : List Oper) (acc : List (List Nat)), all = pre ++ r → acc.length = pre.length → (∀ d j, inAnc acc d j = true → ∃ f, must all f d j = true) → ∀ d j, inAnc (ancG r acc) d j = true → ∃ f, must all f d j = true
  | [], _, _, _, _, h => h
  | o :: r, pre, acc, he, hl, h => by
    refine ancG_ok r (pre ++ [o]) _ (by simp [he]) (by simp [hl]) fun d j hj => ?_
    unfold inAnc at hj
    rw [List.getD_eq_getElem?_getD, List.getElem?_append] at hj
    split at hj
    · exact h d j (by unfold inAnc; rw [List.getD_eq_getElem?_getD]; exact hj)
    · rename_i hlt
      by_cases hz : j - acc.length = 0
      · have hjl : j = pre.length := by omega
        rw [hz] at hj
        simp only [List.getElem?_cons_zero, Option.getD_some, List.contains_iff_mem, List.mem_filter, List.any_eq_true] at hj
        obtain ⟨_, e, he1, he2⟩ := hj
        have ho : all[j]? = some o := by rw [he, hjl]; simp
        obtain ⟨hb, h2⟩ := Bool.and_eq_true_iff.1 he2
        rcases Bool.or_eq_true_iff.1 h2 with h3 | h3
        · refine ⟨1, ?_⟩
          unfold must
          rw [ho]
          exact List.any_eq_true.2 ⟨e, he1, by rw [hb, h3]; rfl⟩
        · obtain ⟨f, hf⟩ := h d e.on h3
          refine ⟨f + 1, ?_⟩
          unfold must
          rw [ho]
          exact List.any_eq_true.2 ⟨e, he1, by rw [hb, hf]; simp⟩
      · obtain ⟨k, hk⟩ : ∃ k, j - acc.length = k + 1 := ⟨j - acc.length - 1, by omega⟩
        rw [hk] at hj
        simp at hj
def relOf (all : List Oper) : Nat → Nat → Bool := bif Nat.ble all.length 16 then must all 3 else inAnc (ancG all [])
theorem relOf_ok (all : List Oper) (d e : Nat) (h : relOf all d e = true) : ∃ f, must all f d e = true := by
  unfold relOf at h
  cases hb : Nat.ble all.length 16 with
  | true => rw [hb] at h; exact ⟨3, h⟩
  | false =>
    rw [hb] at h
    exact ancG_ok all [] [] rfl rfl (fun d j hj => by unfold inAnc at hj; simp at hj) d e h
end Go.Lg
