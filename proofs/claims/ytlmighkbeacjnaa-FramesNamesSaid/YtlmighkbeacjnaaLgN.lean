/- Operations that only compute, by any means; struct equality, max and min, slices' literals. -/
import Derived.Test.YtlmighkbeacjnaaLgM
import Derived.Laws.StructEq
set_option linter.unusedVariables false
set_option linter.unusedSimpArgs false
set_option linter.unusedSectionVars false
namespace Go.Lg
open Go

/-- The operation gives this value, wherever its operands are these. -/
def Pure (P : Program) (tm : Nat → AV) (op : Op) (x : AV) : Prop :=
  (∀ c, op ≠ .defer c) ∧ ∀ (N : Nat) (o : Oper) (tm' : Nat → AV) (h : Heap) (n : Nat) (df : List Nat), o.op = op → (∀ t, Operand.tmp t ∈ op.operands.toList → tm' t = tm t) → OpV P N o ⟨tm', h, n, df⟩ x h n
section
variable {P : Program} {B : Fb → Prop} {N m : Nat} {Q : AEx → St → Prop} {all rest : List Oper} {A : Nat → Heap → Nat → Prop} {k : Nat} {df : List Nat} {bb : Bool} {tm : Nat → AV} {hp hp' : Heap} {n n' : Nat}
  {d : Nat} {op : Op} {ty : TypeId} {pos : String} {af : Array Edge} {j : Nat} {want b : Bool} {x y : AV} {t : Nat}
theorem wp (hx : Pure P tm op x) (hd : d < N) (h : WL P B N m all rest Q ⟨upd tm d x, hp, n, df⟩) : WL P B N m all (⟨some d, op, ty, pos, af, none⟩ :: rest) Q ⟨tm, hp, n, df⟩ :=
  wl_op (o := ⟨some d, op, ty, pos, af, none⟩) (ung_none rfl) (fun _ h => by cases h; exact hd) hx.1 (hx.2 N ⟨some d, op, ty, pos, af, none⟩ tm hp n df rfl (fun _ _ => rfl)) h
theorem wpg (hg : gslot all j = some t) (ht : tm t = y) (hy : y = .bool want) (hx : Pure P tm op x) (hd : d < N) (h : WL P B N m all rest Q ⟨upd tm d x, hp, n, df⟩) : WL P B N m all (⟨some d, op, ty, pos, af, some (j, want)⟩ :: rest) Q ⟨tm, hp, n, df⟩ :=
  wl_op (o := ⟨some d, op, ty, pos, af, some (j, want)⟩) (by have := ung_some (o := ⟨some d, op, ty, pos, af, some (j, want)⟩) (tm := tm) rfl hg (ht.trans hy); simpa using this) (fun _ h => by cases h; exact hd) hx.1 (hx.2 N ⟨some d, op, ty, pos, af, some (j, want)⟩ tm hp n df rfl (fun _ _ => rfl)) h
theorem wr_p (hx : Pure P tm op x) (hd : d < N) (h : WR P B N m all A Q df bb (k + 1) rest (upd tm d x) hp n) : WR P B N m all A Q df bb k (⟨some d, op, ty, pos, af, none⟩ :: rest) tm hp n :=
  .op (fun tm' h n _ hr i hi => does_op hi (ung_none rfl) (fun _ h => by cases h; exact hd) hx.1 (hx.2 N ⟨some d, op, ty, pos, af, none⟩ tm' h n df rfl (rd_op (o := ⟨some d, op, ty, pos, af, none⟩) hr))) h
theorem wr_pg (hg : gslot all j = some t) (ht : tm t = y) (hy : y = .bool want) (hx : Pure P tm op x) (hd : d < N) (h : WR P B N m all A Q df bb (k + 1) rest (upd tm d x) hp n) : WR P B N m all A Q df bb k (⟨some d, op, ty, pos, af, some (j, want)⟩ :: rest) tm hp n :=
  .op (fun tm' h n _ hr i hi => does_op hi (by
    have := ung_some (o := ⟨some d, op, ty, pos, af, some (j, want)⟩) (tm := tm') rfl hg ((rd_guard (o := ⟨some d, op, ty, pos, af, some (j, want)⟩) hr rfl hg).trans (ht.trans hy)); simpa using this) (fun _ h => by cases h; exact hd) hx.1 (hx.2 N ⟨some d, op, ty, pos, af, some (j, want)⟩ tm' h n df rfl (rd_op (o := ⟨some d, op, ty, pos, af, some (j, want)⟩) hr))) h
end

theorem wrap64 {x : Int} (h1 : -9223372036854775808 ≤ x) (h2 : x ≤ 9223372036854775807) : IntKind.i64.wrap x = x := by
  have e : IntKind.i64.wrap x = if x % 18446744073709551616 ≥ 9223372036854775808 then x % 18446744073709551616 - 18446744073709551616 else x % 18446744073709551616 := by
    show (if (true && decide (x % 18446744073709551616 ≥ 9223372036854775808)) = true then _ else _) = _
    simp only [Bool.true_and, decide_eq_true_eq]
    rfl
  rw [e]
  by_cases h : x % 18446744073709551616 ≥ 9223372036854775808
  · rw [if_pos h]; omega
  · rw [if_neg h]; omega
section
variable {P : Program} {T : TT} {tm : Nat → AV}
theorem builtin_run {N : Nat} {o : Oper} {σ : St} {b : Builtin} {args : Array Operand} {ats : Array TypeId} {y : AV} {xs : List AV} (hop : o.op = .call { callee := .builtin b, args := args, argTypes := ats }) (hx : evs σ.tm args.toList = some xs)
    (h : ∀ K vs, VRs K xs vs.toList → ∃ v, (∀ cs, (Go.builtin b ats o.type cs vs).run P K.w = .ok (.value v) K.w) ∧ VR K y v) : OpV P N o σ y σ.h σ.n := by
  refine opv_of fun K a hs => ?_
  have hxs := evs_sound hs.tr hx
  obtain ⟨v, h1, h2⟩ := h K (args.map a.eval) (by simpa using hxs)
  refine ⟨v, ?_, h2⟩
  unfold execOp; rw [hop]
  simp only [resolve]
  rw [run_bindv (run_purev _ _)]
  unfold invoke
  exact h1 _
theorem pure_max {x y : Operand} {ats : Array TypeId} {k : IntKind} {a b : Int} (hx : evo tm x = some (.int k a)) (hy : evo tm y = some (.int k b)) : Pure P tm (.call { callee := .builtin .max, args := #[x, y], argTypes := ats }) (.int k (if b > a then b else a)) := by
  refine ⟨fun c h => (by cases h), fun N o tm' h n df hop hr => ?_⟩
  refine builtin_run (xs := [.int k a, .int k b]) hop ?_ fun K vs hv => ?_
  · have e1 := evo_congr (tm := tm) (tm' := tm') (x := x) (fun t e => hr t (by simp [Op.operands, Call.operands, e]))
    have e2 := evo_congr (tm := tm) (tm' := tm') (x := y) (fun t e => hr t (by simp [Op.operands, Call.operands, e]))
    simp only [evs, e1, e2, hx, hy]
  · obtain ⟨l⟩ := vs
    match l, hv with
    | [v1, v2], hv =>
      have h1 := hv.head.int_inv
      have h2 := hv.tail.head.int_inv
      subst h1 h2
      exact ⟨_, fun _ => by simp [Go.builtin, Builtin.max_, Builtin.max2, List.foldlM], .int _ _⟩
    | [], hv => have := hv.1; simp at this
    | [_], hv => have := hv.1; simp at this
    | _ :: _ :: _ :: _, hv => have := hv.1; simp at this
/-- Fields' equality: whole numbers, truth values, texts. -/
def eqA (T : TT) : List Field → List AV → List AV → Option Bool
  | [], _, _ => some true
  | f :: fs, xs, ys => if f.name = "_" then none else match T f.type with
    | some i => match i.desc, partA i xs f.offset, partA i ys f.offset with
      | .int _, some (.int k a), some (.int k' b) => if k = k' then match eqA T fs xs ys with
        | some r => some ((a == b) && r)
        | none => none
        else none
      | .bool, some (.bool a), some (.bool b) => match eqA T fs xs ys with
        | some r => some ((a == b) && r)
        | none => none
      | .string, some (.str a), some (.str b) => match eqA T fs xs ys with
        | some r => some ((a == b) && r)
        | none => none
      | _, _, _ => none
    | none => none
theorem eqA_sound (hT : TOK P T) {K : Ctx} {vs us : Array Value} {xs ys : List AV} (hv : VRs K xs vs.toList) (hu : VRs K ys us.toList) (d : Nat) : ∀ (fs : List Field) (r : Bool), eqA T fs xs ys = some r → (Op.eqFields (d + 1) vs us fs).run P K.w = .ok r K.w
  | [], r, h => by cases h; rfl
  | f :: fs, r, h => by
    unfold eqA at h
    split at h
    · cases h
    · rename_i hname
      unfold Op.eqFields
      rw [if_pos hname]
      split at h
      · rename_i i hi
        have hund := r_und hT hi K.w
        have step : ∀ {p q : AV} {a b : Value} {c r' : Bool}, partA i xs f.offset = some p → partA i ys f.offset = some q → (∀ a b, VR K p a → VR K q b → (Op.equalIn (d + 1) f.type a b).run P K.w = .ok c K.w) → eqA T fs xs ys = some r' →
            (do let a ← part f.type vs f.offset
                let b ← part f.type us f.offset
                let r ← Op.equalIn (d + 1) f.type a b
                if (!r) = true then pure false else Op.eqFields (d + 1) vs us fs : Sem Bool).run P K.w = .ok (c && r') K.w := by
          intro p q _ _ c r' hp hq heq hr
          obtain ⟨a, h1, h2⟩ := r_part hT hi hv hp
          obtain ⟨b, h3, h4⟩ := r_part hT hi hu hq
          rw [run_bindv h1, run_bindv h3, run_bindv (heq a b h2 h4)]
          cases c
          · simp
          · simpa using eqA_sound hT hv hu d fs r' hr
        split at h
        · rename_i kk k a k' b hd hp hq
          split at h
          · rename_i hk; subst hk
            split at h
            · rename_i r' hr
              cases h
              refine step (a := undef) (b := undef) hp hq (fun u v h1 h2 => ?_) hr
              rw [h1.int_inv, h2.int_inv]
              exact run_equalIn_int K.w d f.type k _ a b (by rw [← hd]; exact hT.und _ _ hi)
            · cases h
          · cases h
        · rename_i a b hd hp hq
          split at h
          · rename_i r' hr
            cases h
            refine step (a := undef) (b := undef) hp hq (fun u v h1 h2 => ?_) hr
            rw [h1.bool_inv, h2.bool_inv]
            exact run_equalIn_bool' K.w d f.type a b (by rw [← hd]; exact hT.und _ _ hi)
          · cases h
        · rename_i a b hd hp hq
          split at h
          · rename_i r' hr
            cases h
            refine step (a := undef) (b := undef) hp hq (fun u v h1 h2 => ?_) hr
            obtain ⟨s1, rfl, rfl⟩ := h1.str_inv
            obtain ⟨s2, rfl, rfl⟩ := h2.str_inv
            have hu2 : P.underlying f.type = some .string := by rw [← hd]; exact hT.und _ _ hi
            have := run_equalIn_string (P := P) K.w d f.type s1 s2 hu2
            rw [this, ByteArray.toList_eq, ByteArray.toList_eq]
          · cases h
        · cases h
      · cases h
theorem pure_eqs (hT : TOK P T) {t yt : TypeId} {i : TI} {fs : Array Field} {x y : Operand} {xs ys : List AV} {r : Bool} (ht : T t = some i) (hd : i.desc = .struct fs) (h1 : P.stoodInHeld t = false) (h2 : P.eqGuardType P.depth t = false) (hx : evo tm x = some (.agg xs)) (hy : evo tm y = some (.agg ys)) (he : eqA T fs.toList xs ys = some r) (neg : Bool) :
    Pure P tm (.binOp (if neg then .neq else .eql) t x y yt) (.bool (if neg then !r else r)) := by
  refine ⟨fun c h => (by cases h), fun N o tm' h n df hop hr => opv_of fun K a hs => ?_⟩
  have e1 := evo_congr (tm := tm) (tm' := tm') (x := x) (fun t e => hr t (by simp [Op.operands, e]))
  have e2 := evo_congr (tm := tm) (tm' := tm') (x := y) (fun t e => hr t (by simp [Op.operands, e]))
  obtain ⟨vs, g1, g2⟩ := (evo_sound hs.tr (e1.trans hx)).agg_inv
  obtain ⟨us, g3, g4⟩ := (evo_sound hs.tr (e2.trans hy)).agg_inv
  have hund : P.underlying t = some (.struct (P.fieldsOf t)) := by
    have := hT.und _ _ ht
    rw [hd] at this
    simp [Program.fieldsOf, this]
  have hfs : P.fieldsOf t = fs := by
    have := hT.und _ _ ht
    rw [hd] at this
    simp [Program.fieldsOf, this]
  have heq : ∀ d, (Op.equalIn (d + 2) t (.agg vs) (.agg us)).run P K.w = .ok r K.w := fun d => by
    rw [run_equalIn_struct K.w (d + 1) t vs us hund h1, hfs]
    exact eqA_sound hT g2 g4 d _ _ he
  have hguard : (eqGuard (if neg then .neq else .eql) t x y (.agg vs) (.agg us)).run P K.w = .ok () K.w := by
    cases neg <;> simp [eqGuard, h2, Sem.run_bind, Result.andThen]
  refine ⟨.bool (if neg then !r else r), ?_, .bool _⟩
  unfold execOp; rw [hop]
  simp only [g1, g3]
  refine run_v ?_
  rw [run_bindv hguard]
  cases neg
  · show (binOp .eql t (.agg vs) (.agg us)).run P K.w = _
    have : (Op.equal t (.agg vs) (.agg us)).run P K.w = .ok r K.w := heq 9998
    simp only [binOp]
    rw [run_bindv this]; rfl
  · show (binOp .neq t (.agg vs) (.agg us)).run P K.w = _
    have : (Op.equal t (.agg vs) (.agg us)).run P K.w = .ok r K.w := heq 9998
    simp only [binOp]
    rw [run_bindv this]; rfl
theorem pure_eql (hT : TOK P T) {t yt : TypeId} {i : TI} {fs : Array Field} {x y : Operand} {xs ys : List AV} {r : Bool} (ht : T t = some i) (hd : i.desc = .struct fs) (h1 : P.stoodInHeld t = false) (h2 : P.eqGuardType P.depth t = false) (hx : evo tm x = some (.agg xs)) (hy : evo tm y = some (.agg ys)) (he : eqA T fs.toList xs ys = some r) :
    Pure P tm (.binOp .eql t x y yt) (.bool r) := pure_eqs hT ht hd h1 h2 hx hy he false
theorem pure_neq (hT : TOK P T) {t yt : TypeId} {i : TI} {fs : Array Field} {x y : Operand} {xs ys : List AV} {r : Bool} (ht : T t = some i) (hd : i.desc = .struct fs) (h1 : P.stoodInHeld t = false) (h2 : P.eqGuardType P.depth t = false) (hx : evo tm x = some (.agg xs)) (hy : evo tm y = some (.agg ys)) (he : eqA T fs.toList xs ys = some r) :
    Pure P tm (.binOp .neq t x y yt) (.bool !r) := pure_eqs hT ht hd h1 h2 hx hy he true
/-- A slice's literal, read only from then on. -/
theorem pure_bs (hT : TOK P T) {t e : TypeId} {len : Nat} {parts : Array (Nat × Operand)} {ps : List (Nat × AV)} {ys : List AV} {ti ei : TI} (ht : T t = some ti) (hd : ti.desc = .slice e) (he : T e = some ei) (hp : evp tm parts.toList = some ps) (hy : fillA (fun j => some (j * ei.size, ei.size)) (repA len ei.zero) ps = some ys)
    (hz : 0 < len * ei.size) (hb : len * ei.size ≤ 16777216) (hzl : ei.zero.length = ei.size) (hl : ys.length = len * ei.size) : Pure P tm (.buildSlice t len parts) (.view (chunk ei.size len ys)) :=
  ⟨fun c h => (by cases h), fun N o tm' h n df hop hr => opv_buildSlice_ro hT (σ := ⟨tm', h, n, df⟩) hop ht hd he hz hb hzl (by rw [← hp]; exact evp_congr fun t e => hr t (by simpa [Op.operands] using e)) hy hl⟩
end
end Go.Lg
