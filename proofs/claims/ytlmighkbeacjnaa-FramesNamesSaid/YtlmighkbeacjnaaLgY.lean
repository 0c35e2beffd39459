/- Answers that are one own block; slicing. -/
import Derived.Test.YtlmighkbeacjnaaLgX
set_option linter.unusedVariables false
set_option linter.unusedSimpArgs false
set_option linter.unusedSectionVars false
namespace Go.Lg
open Go
/-- A slice of the frame's own, as it grows from nothing. -/
def ownR (id sz : Nat) (rows : List (List AV)) : AV := match rows with
  | [] => .empty
  | _ :: r => .slice id 0 (r.length + 1) none sz
def cellR (e : TypeId) (rows : List (List AV)) : Option Blk := match rows with
  | [] => none
  | r :: rs => some (.cells (r :: rs).flatten e)
theorem ownR_pos (id sz : Nat) {rows : List (List AV)} (h : 0 < rows.length) : ownR id sz rows = .slice id 0 rows.length none sz := by
  cases rows with
  | nil => cases h
  | cons x l => rfl
theorem cellR_pos (e : TypeId) {rows : List (List AV)} (h : 0 < rows.length) : cellR e rows = some (.cells rows.flatten e) := by
  cases rows with
  | nil => cases h
  | cons x l => rfl
theorem flat_len {sz : Nat} {rows : List (List AV)} (h : ∀ r, r ∈ rows → r.length = sz) : rows.flatten.length = rows.length * sz := by
  induction rows with
  | nil => simp
  | cons r rs ih =>
    rw [List.flatten_cons, List.length_append, ih (fun x hx => h x (by simp [hx])), h r (by simp), List.length_cons, Nat.add_mul]
    omega
theorem flat_pur {rows : List (List AV)} (h : Pur (.view rows)) : ∀ x, x ∈ rows.flatten → Pur x := by
  intro x hx
  obtain ⟨r, h1, h2⟩ := List.mem_flatten.1 hx
  cases h with
  | view h => exact h r h1 x h2
theorem fz_rows {H : Heap} {id : Nat} {cap : Option Nat} {sz : Nat} {rows : List (List AV)} {e : TypeId} (hl : ∀ r, r ∈ rows → r.length = sz) (hp : Pur (.view rows)) (hH : H id = some (.cells rows.flatten e)) : Fz H (.slice id 0 rows.length cap sz) (.view rows) := by
  have h1 := flat_len hl
  have h := fz_slice_pur (len := rows.length) (off := 0) (cap := cap) (sz := sz) hH (by rw [h1]; omega) (flat_pur hp)
  rw [List.drop_zero, List.take_of_length_le (by rw [h1]; exact Nat.le_refl _)] at h
  rw [chunk_flatten hl] at h
  exact h
theorem flat_at {sz : Nat} : ∀ {rows : List (List AV)}, (∀ r, r ∈ rows → r.length = sz) → ∀ {i j : Nat} {r : List AV}, rows[i]? = some r → j < sz → rows.flatten[i * sz + j]? = r[j]?
  | [], _, i, j, r, h, _ => by simp at h
  | q :: rows, hl, 0, j, r, h, hj => by
    simp at h; subst h
    rw [Nat.zero_mul, Nat.zero_add, List.flatten_cons, List.getElem?_append_left (by rw [hl q (by simp)]; exact hj)]
  | q :: rows, hl, i + 1, j, r, h, hj => by
    rw [List.flatten_cons, List.getElem?_append_right (by rw [hl q (by simp), Nat.add_mul]; omega)]
    rw [show (i + 1) * sz + j - q.length = i * sz + j by rw [hl q (by simp), Nat.add_mul]; omega]
    exact flat_at (fun r hr => hl r (by simp [hr])) (by simpa using h) hj
theorem fz_rowsL {H : Heap} {id len : Nat} {cap : Option Nat} {sz : Nat} {rows : List (List AV)} {e : TypeId} (hlen : rows.length = len) (hl : ∀ r, r ∈ rows → r.length = sz) (hp : Pur (.view rows)) (hH : H id = some (.cells rows.flatten e)) : Fz H (.slice id 0 len cap sz) (.view rows) := by
  subst hlen; exact fz_rows hl hp hH
inductive FzL (H : Heap) : List AV → List AV → Prop
  | nil : FzL H [] []
  | cons {x y : AV} {xs ys : List AV} (h : Fz H x y) (hs : FzL H xs ys) : FzL H (x :: xs) (y :: ys)
theorem FzL.get {H : Heap} {xs ys : List AV} (h : FzL H xs ys) : ys.length = xs.length ∧ ∀ (i : Nat) x y, xs[i]? = some x → ys[i]? = some y → Fz H x y := by
  induction h with
  | nil => exact ⟨rfl, fun i x y h => by simp at h⟩
  | cons h hs ih =>
    refine ⟨by simp [ih.1], fun i x y h1 h2 => ?_⟩
    cases i with
    | zero => simp at h1 h2; subst h1 h2; exact h
    | succ i => exact ih.2 i x y (by simpa using h1) (by simpa using h2)
theorem FzL.agg {H : Heap} {xs ys : List AV} (h : FzL H xs ys) : Fz H (.agg xs) (.agg ys) := .agg h.get.1 h.get.2
theorem FzL.tuple {H : Heap} {xs ys : List AV} (h : FzL H xs ys) : Fz H (.tuple xs) (.tuple ys) := .tuple h.get.1 h.get.2
theorem doneA_ret {P : Program} {T : TT} (hT : TOK P T) {fn : Func} {Q : AR → Heap → Nat → Prop} {rs : Array ResultVar} {xs : List AV} {tm : Nat → AV} {hp : Heap} {n : Nat} (hr : fn.results = rs) (h : resA T ⟨tm, hp, n, []⟩ rs.toList = some xs) (hx : Q (.ret (tup xs)) hp n) : Done P fn Q .ret ⟨tm, hp, n, []⟩ :=
  ⟨rfl, _, by have := resv_of (fn := fn) (N := fn.ntmps) (σ := ⟨tm, hp, n, []⟩) hT (by rw [hr]; exact h); exact this, hx⟩
section
variable {P : Program}
/-- A function whose answer is a new slice: a contract over any memory. -/
theorem ac_own1 {f : FuncId} {args : List AV} {F : Nat → Option Nat → Nat → List AV → TypeId → Prop} (ha : ∀ x, x ∈ args → Pur x)
    (h0 : AC P f args (hl []) 0 fun r H' _ => ∃ id len cap sz cs e, r = .ret (.slice id 0 len cap sz) ∧ H' id = some (.cells cs e) ∧ (∀ x, x ∈ cs → Pur x) ∧ F len cap sz cs e) (H : Heap) (n : Nat) :
    AC P f args H n fun r H' n' => ∃ len cap sz cs e, r = .ret (.slice n 0 len cap sz) ∧ H' = upd H n (some (.cells cs e)) ∧ n' = n + 1 ∧ F len cap sz cs e := by
  intro K vs hn hr hv
  let K0 : Ctx := { K with next := 0 }
  have hr0 : Rel K0 (hl []) := ⟨fun id h => absurd (hl_nil id) h, fun id h => absurd (hl_nil id) h, fun id b h => (by rw [hl_nil] at h; cases h), fun i _ h => absurd (hl_nil i) h, hr.ros⟩
  have hv0 : VRs K0 args vs.toList := ⟨hv.1, fun i x v hx hvv => VR.pur (K := K) (K' := K0) (fun _ h => h) (fun _ _ => rfl) (hv.2 i x v hx hvv) (ha x (List.mem_of_getElem? hx))⟩
  refine (h0 K0 vs rfl hr0 hv0).mono ?_
  rintro e w' ⟨K', H', r, hw, hr', hst, hrr, id, len, cap, sz, cs, et, rfl, hH, hp, hF⟩
  subst hw
  have hidlt := hr'.lt id (by rw [hH]; simp)
  have hob : OB K' H' (K'.base id) := ⟨id, by rw [hH]; simp, rfl⟩
  have hnew : K.w.heap.size ≤ K'.base id := by
    rcases hst.own _ hob with ⟨i, h, _⟩ | h
    · exact absurd (hl_nil i) h
    · exact h
  have hnob : ∀ b, ¬ OB K0 (hl []) b := fun b ⟨i, h, _⟩ => absurd (hl_nil i) h
  have hsame : ∀ b, b < K.w.heap.size → K'.w.heap[b]? = K.w.heap[b]? := fun b hb => hst.same b hb (hnob b)
  let K1 : Ctx := { base := upd K.base n (K'.base id), boff := upd K.boff n (K'.boff id), bsz := upd K.bsz n (K'.bsz id), next := n + 1, ro := K'.ro, w := K'.w }
  have hmu : ∀ i, i < K.next → K1.base i = K.base i ∧ K1.boff i = K.boff i ∧ K1.bsz i = K.bsz i := fun i hi => ⟨upd_ne _ _ (by omega), upd_ne _ _ (by omega), upd_ne _ _ (by omega)⟩
  have hE : Ext K K1 := ⟨by show K.next ≤ n + 1; omega, hmu, fun b hb => hst.ro b hb, fun b hb => hsame b (hr.ros b hb)⟩
  have hold : ∀ i, H i ≠ none → i < n := fun i h => by have := hr.lt i h; omega
  have hcell : ∀ x v, Pur x → VR K' x v → VR K1 x v := fun x v hp hv => VR.pur (K := K') (K' := K1) (fun _ h => h) (fun _ _ => rfl) hv hp
  have hrel : Rel K1 (upd H n (some (.cells cs et))) := by
    refine ⟨fun i hi => ?_, fun i hi => ?_, fun i b hb => ?_, fun i j hi hj e => ?_, hr'.ros⟩
    · by_cases e : i = n
      · subst e; exact Nat.lt_succ_self _
      · rw [upd_ne _ _ e] at hi; have := hold i hi; show i < n + 1; omega
    · by_cases e : i = n
      · subst e
        show ¬ K'.ro (upd K.base i (K'.base id) i)
        rw [upd_same]; exact hr'.nro id (by rw [hH]; simp)
      · rw [upd_ne _ _ e] at hi
        show ¬ K'.ro (upd K.base n (K'.base id) i)
        rw [upd_ne _ _ e]
        intro hro
        rcases hst.ro' _ hro with h | h | h
        · exact hr.nro i hi h
        · exact hnob _ h
        · have := hr.size_lt hi; show False; have h' : K.w.heap.size ≤ K.base i := h; omega
    · by_cases e : i = n
      · subst e
        rw [upd_same] at hb; cases hb
        obtain ⟨arr, fr, g1, g2, g3, g4, g5⟩ := hr'.br id _ hH
        refine ⟨arr, fr, ?_, g2, ?_, ?_, fun j x hx => ?_⟩
        · show K'.w.heap[upd K.base i (K'.base id) i]? = _; rw [upd_same]; exact g1
        · show arr.size = upd K.bsz i (K'.bsz id) i; rw [upd_same]; exact g3
        · show upd K.boff i (K'.boff id) i + _ ≤ _; rw [upd_same]; exact g4
        · obtain ⟨v, h1, h2⟩ := g5 j x hx
          exact ⟨v, by show arr[upd K.boff i (K'.boff id) i + j]? = _; rw [upd_same]; exact h1, hcell x v (hp x (List.mem_of_getElem? hx)) h2⟩
      · rw [upd_ne _ _ e] at hb
        have hi : H i ≠ none := by rw [hb]; simp
        exact (hr.br i b hb).mono hE (hr.lt i hi) (hsame _ (hr.size_lt hi))
    · have e : upd K.base n (K'.base id) i = upd K.base n (K'.base id) j := e
      by_cases ei : i = n
      · by_cases ej : j = n
        · rw [ei, ej]
        · subst ei
          rw [upd_ne _ _ ej] at hj
          rw [upd_same, upd_ne _ _ ej] at e
          have := hr.size_lt hj; omega
      · rw [upd_ne _ _ ei] at hi
        by_cases ej : j = n
        · subst ej
          rw [upd_same, upd_ne _ _ ei] at e
          have := hr.size_lt hi; omega
        · rw [upd_ne _ _ ej] at hj
          rw [upd_ne _ _ ei, upd_ne _ _ ej] at e
          exact hr.inj i j hi hj e
  have hstep : Step K H K1 (upd H n (some (.cells cs et))) := by
    refine ⟨hE.next, hmu, hE.ro, hst.size, fun b hb _ => hsame b hb, fun b hb => ?_, fun b hb => ?_, hst.os, hst.tape, hst.output⟩
    · obtain ⟨i, hi, rfl⟩ := hb
      by_cases e : i = n
      · subst e; right; show _ ≤ upd K.base i (K'.base id) i; rw [upd_same]; exact hnew
      · rw [upd_ne _ _ e] at hi
        left; exact ⟨i, hi, by show K.base i = upd K.base n (K'.base id) i; rw [upd_ne _ _ e]⟩
    · rcases hst.ro' b hb with h | h | h
      · exact .inl h
      · exact absurd h (hnob b)
      · exact .inr (.inr h)
  cases hrr with
  | ret hvr =>
    refine ⟨K1, _, .ret (.slice n 0 len cap sz), rfl, hrel, hstep, .ret ?_, len, cap, sz, cs, et, rfl, rfl, rfl, hF⟩
    cases hvr with
    | @slice _ _ _ _ _ o c h ho hc hl hcap =>
      have e1 : K'.base id = K1.base n := (upd_same _ _ _).symm
      rw [e1]
      exact .slice (Nat.lt_succ_self _) (fun h => by rw [ho h]; show _ = upd K.boff n (K'.boff id) n + 0; rw [upd_same]) (fun h => by have := hc h; show _ ≤ upd K.bsz n (K'.bsz id) n; rw [upd_same]; exact this) hl hcap
end

section
variable {P : Program} {T : TT} {tm : Nat → AV} {t e : TypeId}
theorem natO_isNat {σ : St} {x : Option Operand} {n : Option Nat} (h : natO σ.tm x = some n) : isNat σ x n := by
  unfold natO at h
  split at h
  · cases h; trivial
  · rename_i x
    split at h
    · rename_i k n' hx
      split at h
      · rename_i h0
        cases h
        exact ⟨k, by rw [hx, Int.toNat_of_nonneg h0]⟩
      · cases h
    · cases h
theorem natO_congr {tm tm' : Nat → AV} {x : Option Operand} (h : ∀ t, x = some (.tmp t) → tm' t = tm t) : natO tm' x = natO tm x := by
  cases x with
  | none => rfl
  | some x =>
    unfold natO
    simp only
    rw [evo_congr (x := x) (fun t e => h t (by rw [e]))]
theorem p_slv (hT : TOK P T) {x : Operand} {lo hi : Option Operand} {l h : Option Nat} {rows : List (List AV)} {ti ei : TI} (ht : T t = some ti) (hd : ti.desc = .slice e) (he : T e = some ei) (hx : evo tm x = some (.view rows)) (hl : natO tm lo = some l) (hh : natO tm hi = some h)
    (h1 : bnd l 0 ≤ bnd h rows.length) (h2 : bnd h rows.length ≤ rows.length) (hsz : ∀ r, r ∈ rows → r.length = ei.size) : Pure P tm (.slice t x lo hi none) (.view ((rows.take (bnd h rows.length)).drop (bnd l 0))) := by
  refine ⟨fun c h => (by cases h), fun N o tm' hh' n df hop hr => ?_⟩
  refine opv_slice_view hT (σ := ⟨tm', hh', n, df⟩) (l := l) (h := h) hop ?_ ?_ ?_ ht hd he h1 h2 hsz
  · rw [← hx]; exact evo_congr fun t e => hr t (by simp [Op.operands, e])
  · exact natO_isNat (by rw [← hl]; exact natO_congr fun t e => hr t (by subst e; simp [Op.operands]))
  · exact natO_isNat (by rw [← hh]; exact natO_congr fun t e => hr t (by subst e; simp [Op.operands]))
theorem p_slo (hT : TOK P T) {x : Operand} {lo hi : Option Operand} {l h : Option Nat} {id off len : Nat} {cap : Option Nat} {sz : Nat} {ti ei : TI} (ht : T t = some ti) (hd : ti.desc = .slice e) (he : T e = some ei) (hx : evo tm x = some (.slice id off len cap sz)) (hl : natO tm lo = some l) (hh : natO tm hi = some h)
    (h1 : bnd l 0 ≤ bnd h len) (h2 : bnd h len ≤ len) (hsz : sz = ei.size) : Pure P tm (.slice t x lo hi none) (.slice id (off + bnd l 0 * sz) (bnd h len - bnd l 0) (cap.map (· - bnd l 0)) sz) := by
  refine ⟨fun c h => (by cases h), fun N o tm' hh' n df hop hr => ?_⟩
  refine opv_slice_own hT (σ := ⟨tm', hh', n, df⟩) (l := l) (h := h) (m := none) hop ?_ ?_ ?_ trivial ht hd he h1 h2 (fun m' h => by cases h) hsz
  · rw [← hx]; exact evo_congr fun t e => hr t (by simp [Op.operands, e])
  · exact natO_isNat (by rw [← hl]; exact natO_congr fun t e => hr t (by subst e; simp [Op.operands]))
  · exact natO_isNat (by rw [← hh]; exact natO_congr fun t e => hr t (by subst e; simp [Op.operands]))
end
/-! what is owed within a drawn region; calls that change own memory there -/
def Owed (all : List Oper) (E : List Nat) (i : Nat) (C : Heap → Prop) : Nat → List (Heap × Nat) → Prop
  | _, [] => True
  | s, g :: F => (allowed all E i s = true → C g.1) ∧ Owed all E i C (s + 1) F
theorem Owed.get {all : List Oper} {E : List Nat} {i : Nat} {C : Heap → Prop} : ∀ {F : List (Heap × Nat)} {k : Nat}, Owed all E i C k F → ∀ (s : Nat) g, F[s]? = some g → allowed all E i (k + s) = true → C g.1
  | [], k, _, s, g, h, _ => by simp at h
  | q :: F, k, h, 0, g, hg, ha => by simp at hg; subst hg; exact h.1 ha
  | q :: F, k, h, s + 1, g, hg, ha => Owed.get h.2 s g (by simpa using hg) (by rw [Nat.add_assoc, Nat.add_comm 1 s]; exact ha)
def OwedAll (all : List Oper) (E : List Nat) (F : List (Heap × Nat)) : List (Nat × (Heap → Prop)) → Prop
  | [] => True
  | (i, C) :: r => Owed all E i C 0 F ∧ OwedAll all E F r
theorem OwedAll.get {all : List Oper} {E : List Nat} {F : List (Heap × Nat)} : ∀ {ob : List (Nat × (Heap → Prop))}, OwedAll all E F ob → ∀ p, p ∈ ob → ∀ s g, F[s]? = some g → allowed all E p.1 s = true → p.2 g.1
  | [], _, p, h, _, _, _, _ => by cases h
  | (i, C) :: r, h, p, hp, s, g, hg, ha => by
    rcases List.mem_cons.1 hp with rfl | hp
    · exact h.1.get s g hg (by rw [Nat.zero_add]; exact ha)
    · exact h.2.get p hp s g hg ha
section
variable {P : Program} {B : Fb → Prop} {N m : Nat} {Q : AEx → St → Prop} {all : List Oper} {E : List Nat} {df : List Nat} {s : Nat} {G F : List (Heap × Nat)} {ob : List (Nat × (Heap → Prop))} {rest : List (Nat × Oper)} {tm : Nat → AV} {hp hp' : Heap} {n n' : Nat} {i d : Nat} {ty : TypeId} {pos : String} {af : Array Edge} {y : AV}
theorem m_nilO (hs : s = E.length) (hF : ((hp, n) :: G).reverse = F) (hob : OwedAll all E F ob) (hq : Q .normal ⟨tm, hp, n, df⟩) : WM P B N m all E Q df s G ob (prs all []) tm hp n := .nil hs (by subst hF; exact hob.get) hq
theorem does_callA {o : Oper} {σ : St} {f : FuncId} {args : List AV} (ho : all[i]? = some o) (hu : unguarded all o σ.tm true) (hd : ∀ t, o.dst = some t → t < N) (hdf : ∀ c, o.op ≠ .defer c) (hc : OpC P N o σ f args) (hac : AC P f args σ.h σ.n (fun r h' n'' => r = .ret y ∧ h' = hp' ∧ n'' = n')) :
    Does P B N m all.toArray i σ ⟨putT σ.tm o.dst y, hp', n', σ.df⟩ := by
  intro l Q h K a hm hs
  obtain ⟨vs, hr, hvs⟩ := hc K a hs
  refine mo_call (by simpa using ho) (wanted_of hs.tr hu) hdf hr (hac K vs hs.next hs.rel hvs) ?_
  rintro e w2 ⟨K', H', r, rfl, hrel, hst, hrr, rfl, rfl, hn⟩
  have hE := hst.ext hs.rel
  cases hrr with
  | @ret x v hv =>
    refine .inl ⟨v, rfl, ?_⟩
    have hs' : SR K' N ⟨putT σ.tm o.dst y, H', n', σ.df⟩ (a.put o.dst v) := ⟨hn, hrel, (hs.tr.mono hE).put hd hv, by rw [put_defers]; exact hs.dr.mono hE⟩
    exact (h K' _ (Nat.le_trans hm hst.next) hs').mono fun _ _ _ hq => hq.step (hst.stm hm)
theorem m_calle {fo : Operand} {args : Array Operand} {ats : Array TypeId} {g : FuncId} {first cap xs as : List AV} (he : E[s]? = some i) (hf : evo tm fo = some (.func (.func g) first cap)) (hx : evs tm args.toList = some xs) (ha : first ++ xs ++ cap = as) (hc : Callable P g) (hac : AC P g as hp n (fun r h' n'' => r = .ret y ∧ h' = hp' ∧ n'' = n')) (hd : d < N)
    (h : WM P B N m all E Q df (s + 1) ((hp, n) :: G) ob rest (upd tm d y) hp' n') : WM P B N m all E Q df s G ob ((i, ⟨some d, .call { callee := .value fo, args := args, argTypes := ats }, ty, pos, af, none⟩) :: rest) tm hp n := by
  subst ha
  exact .eff he (fun tm' hr i hi => does_callA (σ := ⟨tm', hp, n, df⟩) hi (ung_none rfl) (fun _ h => by cases h; exact hd) (fun c h => by cases h) (opc_congr rfl hr hf hx hc) hac) h
theorem wacall' {fo : Operand} {args : Array Operand} {ats : Array TypeId} {g : FuncId} {first cap xs as : List AV} {all rest : List Oper} (hf : evo tm fo = some (.func (.func g) first cap)) (hx : evs tm args.toList = some xs) (ha : first ++ xs ++ cap = as) (hc : Callable P g) (hac : AC P g as hp n (fun r h' n'' => r = .ret y ∧ h' = hp' ∧ n'' = n')) (hd : d < N)
    (h : WL P B N m all rest Q ⟨upd tm d y, hp', n', df⟩) : WL P B N m all (⟨some d, .call { callee := .value fo, args := args, argTypes := ats }, ty, pos, af, none⟩ :: rest) Q ⟨tm, hp, n, df⟩ :=
  wacall hf hx ha hc hac hd (by rintro r h' n'' ⟨rfl, rfl, rfl⟩; exact h)
end
end Go.Lg
