/- More operations: comparing with nil, bytes told as a text, an empty slice's literal, an append of nothing; calls whose callee is walked in place. -/
import Derived.Test.YtlmighkbeacjnaaLgW
import Derived.Laws.BytesString
set_option linter.unusedVariables false
set_option linter.unusedSimpArgs false
set_option linter.unusedSectionVars false
namespace Go.Lg
open Go
section
variable {P : Program} {T : TT} {tm : Nat → AV} {t ty e : TypeId}
/-! nil -/
def nilEq (d : TypeDesc) (x : AV) (c : Value) : Option Bool :=
  match d, x, c with
  | .slice _, .view (_ :: _), .slice none 0 0 => some false
  | .slice _, .slice _ _ _ _ _, .slice none 0 0 => some false
  | .pointer _, .ptr _ _, .pointer none => some false
  | .pointer _, .vptr _, .pointer none => some false
  | .pointer _, .nilptr, .pointer none => some true
  | .func _ _ _, .func _ _ _, .nilFunc => some false
  | .func _ _ _, .nilFunc, .nilFunc => some true
  | _, _, _ => none
theorem nilEq_run (hT : TOK P T) {ti : TI} (ht : T t = some ti) {x : AV} {c : Value} {b : Bool} (hb : nilEq ti.desc x c = some b) {K : Ctx} {v : Value} (hv : VR K x v) : (∀ d, (Op.equalIn (d + 1) t v c).run P K.w = .ok b K.w) ∧ (binOp .eql t v c = (do pure (.bool (← Op.equal t v c)))) ∧ (binOp .neq t v c = (do pure (.bool (!(← Op.equal t v c))))) ∧ (∀ cs, v ≠ .agg cs) ∧ (v ≠ .nilIface) := by
  have hu := r_und hT ht K.w
  obtain ⟨dd, hdd⟩ : ∃ dd, ti.desc = dd := ⟨_, rfl⟩
  rw [hdd] at hu hb
  unfold nilEq at hb
  split at hb <;> first | (obtain rfl := Option.some.inj hb) | cases hb
  case h_1 =>
    obtain ⟨a, cc, esz, rfl, _, _, hcell⟩ := view_cells hv
    obtain ⟨blk, off, rfl, _⟩ := hcell (by simp)
    exact ⟨fun d => by unfold Op.equalIn; rw [run_bindv hu]; rfl, rfl, rfl, by simp, by simp⟩
  all_goals (cases hv; exact ⟨fun d => by unfold Op.equalIn; rw [run_bindv hu]; rfl, rfl, rfl, by simp, by simp⟩)
theorem p_nil (hT : TOK P T) {x : Operand} {c : Value} {a : AV} {ti : TI} {b : Bool} (ht : T t = some ti) (hx : evo tm x = some a) (hb : nilEq ti.desc a c = some b) : Pure P tm (.binOp .eql t x (.const c) ty) (.bool b) := by
  refine ⟨fun c h => (by cases h), fun N o tm' h n df hop hr => opv_of fun K ac hs => ?_⟩
  have hx' : evo tm' x = some a := by rw [← hx]; exact evo_congr fun t e => hr t (by simp [Op.operands, e])
  obtain ⟨h1, h2, h3, h4, h5⟩ := nilEq_run hT ht hb (evo_sound hs.tr hx')
  refine ⟨.bool b, ?_, .bool _⟩
  unfold execOp; rw [hop]
  refine run_v ?_
  rw [run_bindv (guard_int P _ t _ _ _ _ K.w h4 (.inl h5))]
  exact run_eqbin h1 h2
theorem p_nnil (hT : TOK P T) {x : Operand} {c : Value} {a : AV} {ti : TI} {b : Bool} (ht : T t = some ti) (hx : evo tm x = some a) (hb : nilEq ti.desc a c = some b) : Pure P tm (.binOp .neq t x (.const c) ty) (.bool !b) := by
  refine ⟨fun c h => (by cases h), fun N o tm' h n df hop hr => opv_of fun K ac hs => ?_⟩
  have hx' : evo tm' x = some a := by rw [← hx]; exact evo_congr fun t e => hr t (by simp [Op.operands, e])
  obtain ⟨h1, h2, h3, h4, h5⟩ := nilEq_run hT ht hb (evo_sound hs.tr hx')
  refine ⟨.bool !b, ?_, .bool _⟩
  unfold execOp; rw [hop]
  refine run_v ?_
  rw [run_bindv (guard_int P _ t _ _ _ _ K.w h4 (.inl h5))]
  exact run_nebin h1 h3

/-! bytes -/
def byteRows (bs : List UInt8) : List (List AV) := bs.map fun b => [.int .u8 b.toNat]
theorem byteRows_len (bs : List UInt8) : (byteRows bs).length = bs.length := by simp [byteRows]
theorem byteRows_pur (bs : List UInt8) : Pur (.view (byteRows bs)) := by
  refine .view fun r hr x hx => ?_
  simp only [byteRows, List.mem_map] at hr
  obtain ⟨y, _, rfl⟩ := hr
  rcases List.mem_singleton.1 hx with rfl; exact .int _ _
theorem fold_push (bs : List UInt8) : ∀ (s : ByteArray), ((bs.map fun b => (b.toNat : Int)).foldl (fun (r : ByteArray) n => r.push (UInt8.ofNat n.toNat)) s).data.toList = s.data.toList ++ bs := by
  induction bs with
  | nil => intro s; simp
  | cons b bs ih =>
    intro s
    rw [List.map_cons, List.foldl_cons, ih]
    simp
theorem p_bytes (hT : TOK P T) {s d : TypeId} {x : Operand} {bs : List UInt8} {ti ei di : TI} (hs : T s = some ti) (hd : ti.desc = .slice e) (he : T e = some ei) (hei : ei.desc = .int .u8) (hdd : T d = some di) (hdi : di.desc = .string) (hx : evo tm x = some (.view (byteRows bs))) :
    Pure P tm (.convert s d x) (.str bs) := by
  refine ⟨fun c h => (by cases h), fun N o tm' h n df hop hr => opv_of fun K ac hsr => ?_⟩
  have hx' : evo tm' x = some (.view (byteRows bs)) := by rw [← hx]; exact evo_congr fun t e => hr t (by simp [Op.operands, e])
  obtain ⟨a, c, esz, hv, hc, hl, hcell⟩ := view_cells (evo_sound hsr.tr hx')
  have u1 := hT.und _ _ hs; rw [hd] at u1
  have u2 := hT.und _ _ he; rw [hei] at u2
  have u3 := hT.und _ _ hdd; rw [hdi] at u3
  have key : ∃ b : ByteArray, (Conv.bytesToString (.slice a (byteRows bs).length c)).run P K.w = .ok (.string b) K.w ∧ b.data.toList = bs := by
    cases bs with
    | nil =>
      cases a with
      | none => exact ⟨.empty, rfl, rfl⟩
      | some a => exact ⟨_, run_bytesToString K.w a 0 c [] rfl, rfl⟩
    | cons b bs =>
      obtain ⟨blk, off, rfl, hro, hcells⟩ := hcell (by simp [byteRows])
      have e1 : esz = 1 := by
        rw [← hl [.int .u8 b.toNat] (by simp [byteRows])]; rfl
      subst e1
      have hlr : ∀ r, r ∈ byteRows (b :: bs) → r.length = 1 := hl
      obtain ⟨vs, g1, g2⟩ := flat_cells (byteRows (b :: bs)) off hlr hcells
      have hflat : (byteRows (b :: bs)).flatten = (b :: bs).map fun b => AV.int .u8 b.toNat := by
        have : ∀ l : List UInt8, (byteRows l).flatten = l.map fun b => AV.int .u8 b.toNat := by
          intro l
          induction l with
          | nil => rfl
          | cons y l ih => simp only [byteRows, List.map_cons, List.flatten_cons] at ih ⊢; rw [ih]; rfl
        exact this _
      have hvs : vs = ((b :: bs).map fun b => (b.toNat : Int)).map (Value.int .u8) := by
        refine List.ext_getElem? fun i => ?_
        rw [hflat] at g1
        by_cases hi : i < (b :: bs).length
        · have h1 : ((b :: bs).map fun b => AV.int .u8 b.toNat)[i]? = some (.int .u8 ((b :: bs)[i]).toNat) := by rw [List.getElem?_map, List.getElem?_eq_getElem hi]; rfl
          have h2 : vs[i]? = some (vs[i]'(by rw [g1.1]; simpa using hi)) := List.getElem?_eq_getElem _
          have h3 := (g1.2 i _ _ h1 h2).int_inv
          rw [h2, h3, List.getElem?_map, List.getElem?_map, List.getElem?_eq_getElem hi]; rfl
        · rw [List.getElem?_eq_none (by rw [g1.1]; simpa using hi), List.getElem?_eq_none (by simpa using hi)]
      have hload := run_loadCells_list (P := P) (w := K.w) ⟨blk, off, none⟩ vs (fun j v hj => by rw [add_plain]; exact g2 j v hj)
      have hlen : vs.length = (byteRows (b :: bs)).length := by rw [hvs]; simp [byteRows]
      rw [hlen, hvs] at hload
      refine ⟨_, run_bytesToString K.w _ _ c _ hload, ?_⟩
      rw [fold_push]; rfl
  obtain ⟨b, k1, k2⟩ := key
  refine ⟨.string b, ?_, by rw [← k2]; exact .str b⟩
  unfold execOp; rw [hop]
  refine run_v ?_
  rw [hv, run_convert_bytes_string K.w s d e _ _ _ u1 u2 u3]
  exact k1

/-! nothing -/
theorem p_bs0 (hT : TOK P T) {ti ei : TI} (ht : T t = some ti) (hd : ti.desc = .slice e) (he : T e = some ei) : Pure P tm (.buildSlice t 0 #[]) .empty := by
  refine ⟨fun c h => (by cases h), fun N o tm' h n df hop hr => fun K a hs => ?_⟩
  obtain ⟨g1, g2⟩ := newRo_ok hs.rel (.cells #[] e)
  refine ⟨.slice (some ⟨K.w.heap.size, 0, none⟩) 0 0, K.newRo (.cells #[] e), .inl ?_, hs.next, g1, g2, .empty _⟩
  unfold execOp; rw [hop]
  refine run_v ?_
  have hu := r_und hT ht K.w
  rw [hd] at hu
  unfold Instr.buildSlice
  rw [run_bindv hu]
  simp only
  rw [run_bindv (r_size hT he K.w), Nat.zero_mul, if_neg (by decide)]
  simp only [if_true]
  rw [run_bindv (run_purev _ _)]
  have e1 : (Array.map (fun x => (#[] : Array Value)[x % (#[] : Array Value).size]!) (Array.range 0)) = #[] := by simp
  have e2 : (Array.map (fun (x : Nat × Operand) => (x.fst, a.eval x.snd)) #[]).toList = [] := by simp
  rw [e1, e2]
  rfl
theorem p_ap0 (hT : TOK P T) {t2 : TypeId} {x z : Operand} {ti ei i2 : TI} {src : AV} (ht : T t = some ti) (hd : ti.desc = .slice e) (he : T e = some ei) (ht2 : T t2 = some i2) (hn2 : notInt i2.desc = true) (hx : evo tm x = some .empty) (hz : evo tm z = some src) (hs : src = .empty ∨ src = .view []) :
    Pure P tm (.call { callee := .builtin .append, args := #[x, z], argTypes := #[t, t2] }) .empty := by
  refine ⟨fun c h => (by cases h), fun N o tm' h n df hop hr => opv_of fun K ac hsr => ?_⟩
  have hx' : evo tm' x = some .empty := by rw [← hx]; exact evo_congr fun t e => hr t (by simp [Op.operands, Call.operands, e])
  have hz' : evo tm' z = some src := by rw [← hz]; exact evo_congr fun t e => hr t (by simp [Op.operands, Call.operands, e])
  have hvx := evo_sound hsr.tr hx'
  have hvz := evo_sound hsr.tr hz'
  have hsrc : SrcA (fun _ => none) ei.size src 0 [] := by
    rcases hs with rfl | rfl
    · exact ⟨rfl, rfl⟩
    · exact ⟨rfl, rfl, fun r hr => by cases hr⟩
  obtain ⟨l1, arr, l2, l3⟩ := src_run (P := P) (rel_none hsr.rel) hsrc hvz
  have harr : arr = #[] := by
    have := l3.1; simp at this; exact this
  subst harr
  generalize hhx : ac.eval x = vx at hvx
  cases hvx with
  | empty ad =>
    refine ⟨.slice ad 0 0, ?_, .empty ad⟩
    unfold execOp; rw [hop]
    simp only [resolve, List.map_toArray, List.map_cons, List.map_nil]
    rw [run_bindv (run_purev _ _)]
    unfold invoke
    simp only [builtin]
    rw [hhx]
    have hu := r_und hT ht K.w
    rw [hd] at hu
    have hrun : (Builtin.append_ #[t, t2] o.type #[.slice ad 0 0, ac.eval z]).run P K.w = .ok (.slice ad 0 0) K.w := by
      unfold Builtin.append_
      simp only [List.getElem?_toArray, List.getElem?_cons_zero, List.getElem?_cons_succ]
      rw [run_bindv hu]
      simp only
      rw [run_bindv (r_size hT he K.w)]
      rw [run_bindv (r_und hT ht2 K.w)]
      refine (run_bindv (a := false) (w' := K.w) ?hzz).trans ?_
      case hzz => cases hh : i2.desc <;> first | rfl | (rw [hh] at hn2; cases hn2)
      simp only [Bool.false_eq_true, if_false]
      rw [run_bindv l1]
      simp only [Nat.add_zero, Nat.le_refl, if_true, Bool.not_false]
      rw [run_bindv l2]
      cases ad with
      | none => rfl
      | some a => rfl
    rw [run_bindv hrun]; rfl
end

/-! calls in place -/
section
variable {P : Program} {T : TT} {B : Fb → Prop} {N m : Nat} {all rest : List Oper} {Q : AEx → St → Prop} {tm : Nat → AV} {hp : Heap} {n : Nat} {df : List Nat} {d : Nat} {ty : TypeId} {pos : String} {af : Array Edge} {j : Nat} {want : Bool} {y z : AV} {t : Nat}
theorem wl_callR {o : Oper} {fo : Operand} {args : Array Operand} {ats : Array TypeId} {g : FuncId} {first cap xs as : List AV} {R : AR → Heap → Nat → Prop} (hop : o.op = .call { callee := .value fo, args := args, argTypes := ats }) (hu : unguarded all o tm true) (hd : ∀ t, o.dst = some t → t < N) (hf : evo tm fo = some (.func (.func g) first cap)) (hx : evs tm args.toList = some xs) (ha : first ++ xs ++ cap = as) (hc : Callable P g) (hac : AC P g as hp n R)
    (h : ∀ r h' n', R r h' n' → match r with
      | .ret x => WL P B N m all rest Q ⟨putT tm o.dst x, h', n', df⟩
      | .panic x => Q (.panic x) ⟨tm, h', n', df⟩) : WL P B N m all (o :: rest) Q ⟨tm, hp, n, df⟩ := by
  subst ha
  exact wl_call (σ := ⟨tm, hp, n, df⟩) hu hd (fun c h => by rw [hop] at h; cases h) (opc_call (σ := ⟨tm, hp, n, df⟩) hop hf hx hc (Subs.refl _)) hac h
/-- A call with a contract over own memory. -/
theorem wacall {fo : Operand} {args : Array Operand} {ats : Array TypeId} {g : FuncId} {first cap xs as : List AV} {R : AR → Heap → Nat → Prop} (hf : evo tm fo = some (.func (.func g) first cap)) (hx : evs tm args.toList = some xs) (ha : first ++ xs ++ cap = as) (hc : Callable P g) (hac : AC P g as hp n R) (hd : d < N)
    (h : ∀ r h' n', R r h' n' → match r with
      | .ret x => WL P B N m all rest Q ⟨upd tm d x, h', n', df⟩
      | .panic x => Q (.panic x) ⟨tm, h', n', df⟩) : WL P B N m all (⟨some d, .call { callee := .value fo, args := args, argTypes := ats }, ty, pos, af, none⟩ :: rest) Q ⟨tm, hp, n, df⟩ :=
  wl_callR (o := ⟨some d, .call { callee := .value fo, args := args, argTypes := ats }, ty, pos, af, none⟩) rfl (ung_none rfl) (fun _ h => by cases h; exact hd) hf hx ha hc hac h
/-- How a walk in place goes on behind the callee. -/
def Inl (P : Program) (fn : Func) (next : AV → Heap → Nat → Prop) : AEx → St → Prop
  | .normal, σ | .ret, σ => σ.df = [] ∧ ∃ x, ResV P fn.ntmps fn σ x ∧ next x σ.h σ.n
  | _, _ => False
theorem wl_inl {fo : Operand} {args : Array Operand} {ats : Array TypeId} {g : FuncId} {first cap xs as : List AV} {fn : Func} {c : Code} {M : Nat} (hf : evo tm fo = some (.func (.func g) first cap)) (hx : evs tm args.toList = some xs) (ha : first ++ xs ++ cap = as) (hfn : P.funcs[g]? = some fn) (hb : fn.body = some c) (hnm : (fn.name == "runtime.NumGoroutine") = false) (hM : fn.ntmps = M) (hN : as.length ≤ M) (hd : d < N)
    (h : W P Plain M n c (Inl P fn (fun x h' n' => WL P B N m all rest Q ⟨upd tm d x, h', n', df⟩)) ⟨args0 as, hp, n, []⟩) : WL P B N m all (⟨some d, .call { callee := .value fo, args := args, argTypes := ats }, ty, pos, af, none⟩ :: rest) Q ⟨tm, hp, n, df⟩ := by
  subst hM
  refine wacall hf hx ha ⟨fn, hfn, hnm, by rw [hb]; rfl⟩ (R := fun r h' n' => ∃ x, r = .ret x ∧ WL P B N m all rest Q ⟨upd tm d x, h', n', df⟩) (ac_of_w hfn hb hN (h.mono fun e σ hq => ?_)) hd ?_
  · cases e with
    | normal => obtain ⟨h1, x, h2, h3⟩ := hq; exact ⟨h1, x, h2, x, rfl, h3⟩
    | ret => obtain ⟨h1, x, h2, h3⟩ := hq; exact ⟨h1, x, h2, x, rfl, h3⟩
    | _ => exact hq.elim
  · rintro r h' n' ⟨x, rfl, h⟩; exact h
theorem inl_ret (hT : TOK P T) {fn : Func} {next : AV → Heap → Nat → Prop} {rs : Array ResultVar} {xs : List AV} (hr : fn.results = rs) (h : resA T ⟨tm, hp, n, []⟩ rs.toList = some xs) (hx : next (tup xs) hp n) : Inl P fn next .ret ⟨tm, hp, n, []⟩ :=
  ⟨rfl, _, by have := resv_of (fn := fn) (N := fn.ntmps) (σ := ⟨tm, hp, n, []⟩) hT (by rw [hr]; exact h); exact this, hx⟩
theorem inl_end (hT : TOK P T) {fn : Func} {next : AV → Heap → Nat → Prop} {rs : Array ResultVar} {xs : List AV} (hr : fn.results = rs) (h : resA T ⟨tm, hp, n, []⟩ rs.toList = some xs) (hx : next (tup xs) hp n) : Inl P fn next .normal ⟨tm, hp, n, []⟩ :=
  ⟨rfl, _, by have := resv_of (fn := fn) (N := fn.ntmps) (σ := ⟨tm, hp, n, []⟩) hT (by rw [hr]; exact h); exact this, hx⟩
/-- A box that is written later. -/
theorem l_box {a : Operand} {x : AV} (hx : evo tm a = some x) (hk : known x = true) (hd : d < N) (h : WL P B N m all rest Q ⟨upd tm d (.ptr n 0), upd hp n (some (.cells (cellsA x) t)), n + 1, df⟩) : WL P B N m all (⟨some d, .box t a, ty, pos, af, none⟩ :: rest) Q ⟨tm, hp, n, df⟩ := w_box hx hk hd h
/-- A comparison with nil whose answer isn't known. -/
theorem wl_nilx (hT : TOK P T) {op : BinOp} {yt : TypeId} {x : Operand} {a : AV} {ti : TI} {e : TypeId} (hop : op = .eql ∨ op = .neq) (ht : T t = some ti) (hd0 : ti.desc = .slice e) (hx : evo tm x = some a) (ha : a = .empty ∨ ∃ rows, a = .view rows) (hd : d < N) (h : ∀ b, WL P B N m all rest Q ⟨upd tm d (.bool b), hp, n, df⟩) : WL P B N m all (⟨some d, .binOp op t x (.const (.slice none 0 0)) yt, ty, pos, af, none⟩ :: rest) Q ⟨tm, hp, n, df⟩ := by
  intro pre hpre K ac hm hs
  have hv := evo_sound hs.tr hx
  obtain ⟨ad, l, c, hvs⟩ : ∃ ad l c, ac.eval x = .slice ad l c := by
    rcases ha with rfl | ⟨rows, rfl⟩
    · generalize ac.eval x = v at hv; cases hv; exact ⟨_, _, _, rfl⟩
    · obtain ⟨a, c, _, hv, _⟩ := view_cells hv; exact ⟨_, _, _, hv⟩
  have hu := r_und hT ht K.w
  rw [hd0] at hu
  have key : ∃ b, ∀ dd, (Op.equalIn (dd + 1) t (.slice ad l c) (.slice none 0 0)).run P K.w = .ok b K.w := by
    cases ad with
    | none => exact ⟨true, fun dd => by unfold Op.equalIn; rw [run_bindv hu]; rfl⟩
    | some q => exact ⟨false, fun dd => by unfold Op.equalIn; rw [run_bindv hu]; rfl⟩
  obtain ⟨b, hb⟩ := key
  rw [range'_cons]
  refine mo_value (at_pre hpre) (wanted_of hs.tr (ung_none rfl)) (fun c h => by cases h) (w' := K.w) (v := .bool (if op = .eql then b else !b)) (.inl ?_) ?_
  · unfold execOp
    refine run_v ?_
    rw [run_bindv (guard_int P _ t _ _ _ _ K.w (by rw [hvs]; simp) (.inl (by rw [hvs]; simp)))]
    rw [hvs]
    rcases hop with rfl | rfl
    · exact run_eqbin hb rfl
    · exact run_nebin hb rfl
  · have hs' : SR K N ⟨upd tm d (.bool (if op = .eql then b else !b)), hp, n, df⟩ (ac.put (some d) (.bool (if op = .eql then b else !b))) := ⟨hs.next, hs.rel, hs.tr.put (d := some d) (fun _ h => by cases h; exact hd) (.bool _), by rw [put_defers]; exact hs.dr⟩
    exact h _ (pre ++ [_]) (by simp [hpre]) K _ hm hs'
end
end Go.Lg
