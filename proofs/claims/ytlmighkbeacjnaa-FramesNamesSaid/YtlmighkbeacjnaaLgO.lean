/- A loop that leaves in its first round. -/
import Derived.Test.YtlmighkbeacjnaaLgN
set_option linter.unusedVariables false
set_option linter.unusedSimpArgs false
set_option linter.unusedSectionVars false
namespace Go.Lg
open Go
theorem w_once {P : Program} {B : Fb → Prop} {N m : Nat} {Q : AEx → St → Prop} {σ : St} {c : Code} (h : W P B N m c (AEx.go (fun _ => False) Q) σ) : W P B N m (.loop c) Q σ := by
  refine w_loop (fun _ σ' => σ' = σ) 0 rfl ?_
  rintro n σ' rfl
  refine h.mono fun e σ2 hq => ?_
  cases e with
  | normal => exact hq.elim
  | _ => exact hq

theorem SubRs.purs {r : List Nat} : ∀ {xs ys : List AV}, (∀ x, x ∈ xs → Pur x) → xs = ys → SubRs r xs ys
  | [], _, _, rfl => .nil
  | x :: xs, _, h, rfl => .cons (.pur (h x (by simp))) (SubRs.purs (fun y hy => h y (by simp [hy])) rfl)
theorem chunk_flatten {sz : Nat} : ∀ {rows : List (List AV)}, (∀ r, r ∈ rows → r.length = sz) → chunk sz rows.length rows.flatten = rows
  | [], _ => rfl
  | r :: rows, h => by
    have h0 := h r (by simp)
    simp only [List.length_cons, List.flatten_cons, chunk]
    rw [List.take_append_of_le_length (by omega), List.take_of_length_le (by omega), List.drop_append_of_le_length (by omega), List.drop_of_length_le (by omega), List.nil_append, chunk_flatten (fun r hr => h r (by simp [hr]))]
def AnyH : Nat → Heap → Nat → Prop := fun _ _ _ => True
section
variable {P : Program} {B : Fb → Prop} {N m : Nat} {Q : AEx → St → Prop} {T : TT} {all rest : List Oper} {df : List Nat} {bb : Bool} {k : Nat} {tm : Nat → AV} {hp : Heap} {n : Nat}
  {d : Nat} {op : Op} {ty : TypeId} {pos : String} {af : Array Edge} {j : Nat} {want b : Bool} {x y : AV} {t t2 e : TypeId}
theorem w_drawE {id : Nat} {ops : Array Oper} (hmx : P.follows .mixedOrders = true) (hd : drawOk ops.toList = true) (hw : WR P B N m ops.toList AnyH Q df false 0 ops.toList tm hp n) : W P B N m (.region id ops true) Q ⟨tm, hp, n, df⟩ :=
  w_draw hmx hd hw
theorem wr_nilA (h : Q .normal ⟨tm, hp, n, df⟩) : WR P B N m all AnyH Q df bb k [] tm hp n := .nil (fun _ _ => trivial) h
/-- With one change, at place 'e': what stands before it sees the memory ahead of it, what stands behind it the memory behind. -/
def AtE (all : List Oper) (e : Nat) (h0 : Heap) (n0 : Nat) (h1 : Heap) (n1 : Nat) : Nat → Heap → Nat → Prop := fun k h n => (must all 3 e k = false ∧ h = h0 ∧ n = n0) ∨ (must all 3 k e = false ∧ h = h1 ∧ n = n1)
theorem w_drawS {id : Nat} {ops : Array Oper} (e : Nat) {h1 : Heap} {n1 : Nat} (hmx : P.follows .mixedOrders = true) (hd : drawOk ops.toList = true) (hw : WR P B N m ops.toList (AtE ops.toList e hp n h1 n1) Q df false 0 ops.toList tm hp n) : W P B N m (.region id ops true) Q ⟨tm, hp, n, df⟩ :=
  w_draw hmx hd hw
theorem wr_nilE {e : Nat} {h0 h1 : Heap} {n0 n1 : Nat} (h : Q .normal ⟨tm, hp, n, df⟩) : WR P B N m all (AtE all e h0 n0 h1 n1) Q df true k [] tm hp n := .nil (fun h => by cases h) h
/-- What must come before the change. -/
theorem wr_xB (hT : TOK P T) {e : Nat} {h0 h1 : Heap} {n0 n1 : Nat} (hb : must all 3 k e = true) (hx : pvx T tm h0 op = some x) (hd : d < N) (h : WR P B N m all (AtE all e h0 n0 h1 n1) Q df bb (k + 1) rest (upd tm d x) hp n) : WR P B N m all (AtE all e h0 n0 h1 n1) Q df bb k (⟨some d, op, ty, pos, af, none⟩ :: rest) tm hp n :=
  wr_x hT (fun h' n' hA => by
    rcases hA with ⟨_, e1, _⟩ | ⟨h2, _⟩
    · rw [e1]; exact hx
    · rw [hb] at h2; cases h2) (fun c h => by rw [h] at hx; cases hx) hd h
/-- What doesn't look at own memory. -/
theorem wr_xS (hT : TOK P T) {e : Nat} {h0 h1 : Heap} {n0 n1 : Nat} (hx : ∀ h', pvx T tm h' op = some x) (hd : d < N) (h : WR P B N m all (AtE all e h0 n0 h1 n1) Q df bb (k + 1) rest (upd tm d x) hp n) : WR P B N m all (AtE all e h0 n0 h1 n1) Q df bb k (⟨some d, op, ty, pos, af, none⟩ :: rest) tm hp n :=
  wr_x hT (fun h' _ _ => hx h') (fun c h => by have := hx noHeap; rw [h] at this; cases this) hd h
theorem wr_storeS (hT : TOK P T) {a c : Operand} {u v : AV} {h1 : Heap} (hu : evo tm a = some u) (hv : evo tm c = some v) (hs : hvStore T hp t u v = some h1) (h : WR P B N m all (AtE all k hp n h1 n) Q df true (k + 1) rest tm h1 n) : WR P B N m all (AtE all k hp n h1 n) Q df false k (⟨none, .store t a c, ty, pos, af, none⟩ :: rest) tm hp n :=
  wr_store hT hu hv hs (fun j => ⟨fun h => .inl ⟨h, rfl, rfl⟩, fun h => .inr ⟨h, rfl, rfl⟩⟩) h
theorem wr_xA (hT : TOK P T) (hx : ∀ h', pvx T tm h' op = some x) (hd : d < N) (h : WR P B N m all AnyH Q df bb (k + 1) rest (upd tm d x) hp n) : WR P B N m all AnyH Q df bb k (⟨some d, op, ty, pos, af, none⟩ :: rest) tm hp n :=
  wr_x hT (fun h' _ _ => hx h') (fun c h => by have := hx noHeap; rw [h] at this; cases this) hd h
theorem wr_xgA (hT : TOK P T) (hg : gslot all j = some t) (ht : tm t = y) (hy : y = .bool want) (hx : ∀ h', pvx T tm h' op = some x) (hd : d < N) (h : WR P B N m all AnyH Q df bb (k + 1) rest (upd tm d x) hp n) : WR P B N m all AnyH Q df bb k (⟨some d, op, ty, pos, af, some (j, want)⟩ :: rest) tm hp n :=
  wr_xg hT hg ht hy (fun h' _ _ => hx h') (fun c h => by have := hx noHeap; rw [h] at this; cases this) hd h
theorem pure_bs1 (hT : TOK P T) {len : Nat} {parts : Array (Nat × Operand)} {ps : List (Nat × AV)} {ys : List AV} {ti ei : TI} {rows : List (List AV)} (ht : T t = some ti) (hd : ti.desc = .slice e) (he : T e = some ei) (hp : evp tm parts.toList = some ps) (hy : fillA (fun j => some (j * ei.size, ei.size)) (repA len ei.zero) ps = some ys)
    (hc : chunk ei.size len ys = rows) (hz : 0 < len * ei.size) (hb : len * ei.size ≤ 16777216) (hzl : ei.zero.length = ei.size) (hl : ys.length = len * ei.size) : Pure P tm (.buildSlice t len parts) (.view rows) := by
  subst hc; exact pure_bs hT ht hd he hp hy hz hb hzl hl

/-- An append to nothing. -/
theorem ap_new (hT : TOK P T) {x z : Operand} {ti ei i2 : TI} {rows : List (List AV)} {o : Oper} {tm' : Nat → AV} {df : List Nat} (hop : o.op = .call { callee := .builtin .append, args := #[x, z], argTypes := #[t, t2] }) (ht : T t = some ti) (hd : ti.desc = .slice e) (he : T e = some ei) (ht2 : T t2 = some i2) (hn2 : notInt i2.desc = true)
    (hx : evo tm x = some .empty) (hz : evo tm z = some (.view rows)) (hk : 0 < rows.length) (hl : ∀ r, r ∈ rows → r.length = ei.size) (hsm : (2 * rows.length + 768) * ei.bytes ≤ 281474976710656) (hsm2 : rows.length ≤ 4611686018427387904) (hb : 0 < ei.bytes)
    (hr : ∀ t, Operand.tmp t ∈ o.op.operands.toList → tm' t = tm t) : OpV P N o ⟨tm', hp, n, df⟩ (.slice n 0 rows.length none ei.size) (upd hp n (some (.cells rows.flatten e))) (n + 1) := by
  rw [hop] at hr
  exact opv_append_new hT (σ := ⟨tm', hp, n, df⟩) (src := .view rows) hop ht hd he ht2 hn2 (by rw [← hx]; exact evo_congr fun t e => hr t (by simp [Op.operands, Call.operands, e])) (by rw [← hz]; exact evo_congr fun t e => hr t (by simp [Op.operands, Call.operands, e])) ⟨rfl, rfl, hl⟩ hk hsm hsm2 hb
/-- An append to a slice of the frame's own. -/
theorem ap_own (hT : TOK P T) {x z : Operand} {ti ei i2 : TI} {rows : List (List AV)} {o : Oper} {tm' : Nat → AV} {df : List Nat} {id len : Nat} {cs : List AV} (hop : o.op = .call { callee := .builtin .append, args := #[x, z], argTypes := #[t, t2] }) (ht : T t = some ti) (hd : ti.desc = .slice e) (he : T e = some ei) (ht2 : T t2 = some i2) (hn2 : notInt i2.desc = true)
    (hx : evo tm x = some (.slice id 0 len none ei.size)) (hz : evo tm z = some (.view rows)) (hH : hp id = some (.cells cs e)) (hcl : len * ei.size = cs.length) (hl : ∀ r, r ∈ rows → r.length = ei.size) (hsc : rows.flatten.all scalA = true) (hsm : (2 * (len + rows.length) + 768) * ei.bytes ≤ 281474976710656) (hsm2 : len + rows.length ≤ 4611686018427387904) (hb : 0 < ei.bytes)
    (hr : ∀ t, Operand.tmp t ∈ o.op.operands.toList → tm' t = tm t) : OpV P N o ⟨tm', hp, n, df⟩ (.slice n 0 (len + rows.length) none ei.size) (upd (upd hp id none) n (some (.cells (cs ++ rows.flatten) e))) (n + 1) := by
  rw [hop] at hr
  exact opv_append_own hT (σ := ⟨tm', hp, n, df⟩) (src := .view rows) (cs := cs) (off := 0) hop ht hd he ht2 hn2 (by rw [← hx]; exact evo_congr fun t e => hr t (by simp [Op.operands, Call.operands, e])) (by rw [← hz]; exact evo_congr fun t e => hr t (by simp [Op.operands, Call.operands, e])) hH (by omega) ⟨rfl, rfl, hl⟩ (fun c hc => List.all_eq_true.1 hsc c hc) hsm hsm2 hb
theorem w_ap {hp' : Heap} {n' : Nat} {c : Call} (h1 : ∀ o : Oper, o.op = .call c → ∀ tm', (∀ t, Operand.tmp t ∈ o.op.operands.toList → tm' t = tm t) → ∀ df, OpV P N o ⟨tm', hp, n, df⟩ x hp' n') (hd : d < N) (h : WL P B N m all rest Q ⟨upd tm d x, hp', n', df⟩) : WL P B N m all (⟨some d, .call c, ty, pos, af, none⟩ :: rest) Q ⟨tm, hp, n, df⟩ :=
  wl_op (o := ⟨some d, .call c, ty, pos, af, none⟩) (ung_none rfl) (fun _ h => by cases h; exact hd) (fun c h => by cases h) (h1 _ rfl tm (fun _ _ => rfl) df) h
theorem wr_ap {hp' : Heap} {n' : Nat} {c : Call} (h1 : ∀ o : Oper, o.op = .call c → ∀ tm', (∀ t, Operand.tmp t ∈ o.op.operands.toList → tm' t = tm t) → ∀ df, OpV P N o ⟨tm', hp, n, df⟩ x hp' n') (hd : d < N) (h : WR P B N m all AnyH Q df true (k + 1) rest (upd tm d x) hp' n') : WR P B N m all AnyH Q df false k (⟨some d, .call c, ty, pos, af, none⟩ :: rest) tm hp n :=
  .eff (fun tm' hr i hi => does_op hi (ung_none rfl) (fun _ h => by cases h; exact hd) (fun c h => by cases h) (h1 _ rfl tm' (rd_op hr) df)) (fun _ => ⟨fun _ => trivial, fun _ => trivial⟩) h
end

/-- Behind code, the state told anew. -/
theorem w_post {P : Program} {B : Fb → Prop} {N m : Nat} {Q : AEx → St → Prop} {σ : St} {c : Code} (h : W P B N m c (fun e σ => (∀ x, e ≠ .panic x) ∧ ∃ l hs df, Canon N m σ l hs df ∧ Q e (St.of l hs df)) σ) : W P B N m c Q σ := by
  intro K a hm hs
  refine (h K a hm hs).mono ?_
  rintro e a' w' ⟨K', σ', e', rfl, hs', hst, he, hne, l, hs2, df, hc, hq⟩
  obtain ⟨K1, hw, hs1, hst1⟩ := hc.ok K' a' hst.next' hs'
  refine ⟨K1, _, e', hw, hs1, hst.trans hst1, ?_, hq⟩
  cases he with
  | normal => exact .normal
  | exit i => exact .exit i
  | goto i => exact .goto i
  | ret => exact .ret
  | panic h => exact absurd rfl (hne _)
theorem subR_args0 {r : List Nat} {L : List AV} (h : ∀ x, x ∈ L → SubR r x x) (t : Nat) : SubR r (args0 L t) (args0 L t) := by
  unfold args0
  rw [List.getD_eq_getElem?_getD]
  cases hx : L[t]? with
  | none => exact .pur (.tuple (by simp))
  | some x => exact h x (List.mem_of_getElem? hx)
theorem low_args0 {k : Nat} {L : List AV} (h : ∀ x, x ∈ L → Low k x) (t : Nat) : Low k (args0 L t) := by
  unfold args0
  rw [List.getD_eq_getElem?_getD]
  cases hx : L[t]? with
  | none => exact .pur (.tuple (by simp))
  | some x => exact h x (List.mem_of_getElem? hx)

theorem hl_push (l : List (Option Blk)) (b : Option Blk) : upd (hl l) l.length b = hl (l ++ [b]) := by
  funext i
  unfold upd hl
  by_cases e : i = l.length
  · subst e; simp
  · rw [if_neg e, List.getD_eq_getElem?_getD, List.getD_eq_getElem?_getD, List.getElem?_append]
    by_cases h : i < l.length
    · rw [if_pos h]
    · rw [if_neg h, List.getElem?_eq_none (by omega), List.getElem?_eq_none (by simp; omega)]
theorem hl_set (l : List (Option Blk)) (i : Nat) (b : Option Blk) (hi : i < l.length) : upd (hl l) i b = hl (l.set i b) := by
  funext j
  unfold upd hl
  rw [List.getD_eq_getElem?_getD, List.getD_eq_getElem?_getD, List.getElem?_set]
  by_cases e : j = i
  · subst e; simp [hi]
  · rw [if_neg e, if_neg (Ne.symm e)]
theorem w_rangeL {P : Program} {N m : Nat} {Q : AEx → St → Prop} {tm : Nat → AV} {hs : List (Option Blk)} {df : List Nat} {f : Operand} {ps : Array Tmp} {as bd : Code} {g : FuncId} {first cap : List AV} {R : AR → Heap → Nat → Prop} (hf : evo tm f = some (.func (.func g) first cap)) (hc : Callable P g)
    (hac : ∀ lb, lb = LoopB.mk tm N ps as bd .ready none → AC P g (first ++ [.yieldf (hs.length + 1)] ++ cap) (hl (hs ++ [some .deferred, some (.loop lb)])) (hs.length + 2) R)
    (h : ∀ r h' n', R r h' n' → ∃ x lb', r = .ret x ∧ h' (hs.length + 1) = some (.loop lb') ∧ lb'.state ≠ .busy ∧
      match lb'.pending with
      | none => Q .normal ⟨tm, upd h' (hs.length + 1) none, n', hs.length :: df⟩
      | some c => W P Plain N m c Q ⟨tm, upd h' (hs.length + 1) none, n', hs.length :: df⟩) : W P Plain N m (.rangeFunc f ps as bd) Q ⟨tm, hl hs, hs.length, df⟩ := by
  refine w_range hf hc ?_ h
  have e : upd (upd (hl hs) hs.length (some .deferred)) (hs.length + 1) (some (.loop ⟨tm, N, ps, as, bd, .ready, none⟩)) = hl (hs ++ [some .deferred, some (.loop ⟨tm, N, ps, as, bd, .ready, none⟩)]) := by
    have h2 := hl_push (hs ++ [some .deferred]) (some (.loop ⟨tm, N, ps, as, bd, .ready, none⟩))
    rw [List.length_append, List.length_singleton, ← hl_push, List.append_assoc] at h2
    exact h2
  rw [e]; exact hac _ rfl
end Go.Lg
