/- Indexing, slicing, literals; what is only read from now on. -/
import Derived.Test.YtlmighkbeacjnaaLg7
set_option linter.unusedVariables false
set_option linter.unusedSimpArgs false
set_option linter.unusedSectionVars false
namespace Go.Lg
open Go

theorem view_cells {K : Ctx} {rows : List (List AV)} {v : Value} (h : VR K (.view rows) v) : ∃ a c esz, v = .slice a rows.length c ∧ rows.length ≤ c ∧ (∀ r, r ∈ rows → r.length = esz) ∧
    (0 < rows.length → ∃ blk off, a = some ⟨blk, off, none⟩ ∧ K.ro blk ∧ ∀ (i : Nat) r, rows[i]? = some r → ∃ vs, VRs K r vs ∧ ∀ (j : Nat) u, vs[j]? = some u → K.w.cell? ⟨blk, off + i * esz + j, none⟩ = some u) := by
  cases h with
  | @view rows a c esz f hc hl ha hv =>
    refine ⟨a, c, esz, rfl, hc, hl, fun hp => ?_⟩
    obtain ⟨blk, off, e, hr, hcell⟩ := ha hp
    refine ⟨blk, off, e, hr, fun i r hi => ⟨(List.range r.length).map (f i), ⟨by simp, fun j x u hx hu => ?_⟩, fun j u hu => ?_⟩⟩
    · have hj : j < r.length := (List.getElem?_eq_some_iff.1 hx).1
      simp [hj] at hu; subst hu
      exact hv i j r x hi hx
    · by_cases hj : j < r.length
      · simp [hj] at hu; subst hu
        have hi' : i < rows.length := (List.getElem?_eq_some_iff.1 hi).1
        have hm : r ∈ rows := List.mem_of_getElem? hi
        have := hcell i j hi' (by rw [← hl r hm]; exact hj)
        rw [← Nat.add_assoc] at this; exact this
      · simp [hj] at hu
theorem view_mk {K : Ctx} {rows : List (List AV)} {a : Option Addr} {c esz : Nat} (hc : rows.length ≤ c) (hl : ∀ r, r ∈ rows → r.length = esz)
    (ha : 0 < rows.length → ∃ blk off, a = some ⟨blk, off, none⟩ ∧ K.ro blk ∧ ∀ (i : Nat) r, rows[i]? = some r → ∃ vs, VRs K r vs ∧ ∀ (j : Nat) u, vs[j]? = some u → K.w.cell? ⟨blk, off + i * esz + j, none⟩ = some u) : VR K (.view rows) (.slice a rows.length c) := by
  by_cases hp : 0 < rows.length
  · obtain ⟨blk, off, e, hr, hcell⟩ := ha hp
    have key : ∀ i j, ∃ u, ∀ r x, rows[i]? = some r → r[j]? = some x → K.w.cell? ⟨blk, off + i * esz + j, none⟩ = some u ∧ VR K x u := by
      intro i j
      cases hi : rows[i]? with
      | none => exact ⟨undef, fun r x h => by cases h⟩
      | some r =>
        cases hj : r[j]? with
        | none => exact ⟨undef, fun r' x h h' => by cases h; rw [hj] at h'; cases h'⟩
        | some x =>
          obtain ⟨vs, h1, h2⟩ := hcell i r hi
          obtain ⟨u, hu, hx⟩ := h1.get hj
          exact ⟨u, fun r' x' h h' => by cases h; rw [hj] at h'; cases h'; exact ⟨h2 j u hu, hx⟩⟩
    have key' : ∀ i, ∃ g : Nat → Value, ∀ j r x, rows[i]? = some r → r[j]? = some x → K.w.cell? ⟨blk, off + i * esz + j, none⟩ = some (g j) ∧ VR K x (g j) :=
      fun i => ⟨fun j => Classical.choose (key i j), fun j => Classical.choose_spec (key i j)⟩
    let f : Nat → Nat → Value := fun i j => Classical.choose (key i j)
    have hf : ∀ i j r x, rows[i]? = some r → r[j]? = some x → K.w.cell? ⟨blk, off + i * esz + j, none⟩ = some (f i j) ∧ VR K x (f i j) := fun i j => Classical.choose_spec (key i j)
    refine .view f hc hl (fun _ => ⟨blk, off, e, hr, fun i j hi hj => ?_⟩) (fun i j r x h1 h2 => (hf i j r x h1 h2).2)
    have hr' : rows[i]? = some rows[i] := List.getElem?_eq_getElem hi
    have hlen := hl rows[i] (List.getElem_mem hi)
    have hx : rows[i][j]? = some (rows[i][j]'(by omega)) := List.getElem?_eq_getElem (by omega)
    rw [← Nat.add_assoc]
    exact (hf i j _ _ hr' hx).1
  · have : rows = [] := List.eq_nil_of_length_eq_zero (by omega)
    subst this
    exact .view (esz := esz) (fun _ _ => undef) hc hl (by simp) (by simp)
theorem empty_view {K : Ctx} {v : Value} (h : VR K .empty v) : VR K (.view []) v := by
  cases h; exact view_mk (rows := []) (esz := 0) (Nat.le_refl _) (by simp) (by simp)

section
variable {P : Program} {T : TT} (hT : TOK P T) {N : Nat} {o : Oper} {σ : St}
include hT
/-- The address of an element of what is only read. -/
theorem opv_indexAddr_view {t e : TypeId} {x ix : Operand} {rows : List (List AV)} {k : IntKind} {i : Int} {r : List AV} {ti ei : TI} (hop : o.op = .indexAddr t x ix) (hx : evo σ.tm x = some (.view rows)) (hi : evo σ.tm ix = some (.int k i))
    (ht : T t = some ti) (hd : ti.desc = .slice e) (he : T e = some ei) (h0 : 0 ≤ i) (hr : rows[i.toNat]? = some r) (hsz : r.length = ei.size) : OpV P N o σ (.vptr r) σ.h σ.n := by
  refine opv_of fun K a hs => ?_
  obtain ⟨ad, c, esz, hv, hc, hl, hcell⟩ := view_cells (evo_sound hs.tr hx)
  have hvi := (evo_sound hs.tr hi).int_inv
  have hlt : i.toNat < rows.length := (List.getElem?_eq_some_iff.1 hr).1
  obtain ⟨blk, off, rfl, hro, hcells⟩ := hcell (by omega)
  obtain ⟨vs, hvs, hcs⟩ := hcells _ r hr
  have hesz : esz = ei.size := by rw [← hl r (List.mem_of_getElem? hr)]; exact hsz
  have hu := r_und hT ht K.w
  rw [hd] at hu
  refine ⟨.pointer (some ⟨blk, off + i.toNat * esz, none⟩), ?_, vptr_mk hro hvs hcs⟩
  unfold execOp; rw [hop]; refine run_v ?_
  unfold Instr.indexAt
  rw [run_bindv (a := (k, i)) (w' := K.w) (by rw [hvi]; rfl), run_bindv hu, hv]
  simp only [run_bindv (run_purev _ _)]
  rw [run_bindv hu]
  simp only [Bool.and_false]
  rw [if_pos ⟨h0, by omega⟩, run_bindv (r_size hT he K.w), add_plain, hesz]
  rfl
/-- The address of an element of own memory. -/
theorem opv_indexAddr_own {t e : TypeId} {x ix : Operand} {id off len : Nat} {cap : Option Nat} {k : IntKind} {i : Int} {ti ei : TI} {sz : Nat} (hop : o.op = .indexAddr t x ix) (hx : evo σ.tm x = some (.slice id off len cap sz)) (hi : evo σ.tm ix = some (.int k i))
    (ht : T t = some ti) (hd : ti.desc = .slice e) (he : T e = some ei) (h0 : 0 ≤ i) (hlt : i < len) (hsz : sz = ei.size) : OpV P N o σ (.ptr id (off + i.toNat * sz)) σ.h σ.n := by
  refine opv_of fun K a hs => ?_
  have hvx := evo_sound hs.tr hx
  have hvi := (evo_sound hs.tr hi).int_inv
  have hu := r_und hT ht K.w
  rw [hd] at hu
  generalize hh : a.eval x = v at hvx
  cases hvx with
  | @slice id off len cap sz o' c hid ho hc hl hcap =>
    refine ⟨.pointer (some ⟨K.base id, K.boff id + (off + i.toNat * sz), none⟩), ?_, .ptr hid⟩
    unfold execOp; rw [hop]; refine run_v ?_
    unfold Instr.indexAt
    rw [run_bindv (a := (k, i)) (w' := K.w) (by rw [hvi]; rfl), run_bindv hu, hh]
    simp only [run_bindv (run_purev _ _)]
    rw [run_bindv hu]
    simp only [Bool.and_false]
    rw [if_pos ⟨h0, hlt⟩, run_bindv (r_size hT he K.w), add_plain, ho (by omega), hsz, Nat.add_assoc]
    rfl
/-- The address of an element of an array. -/
theorem r_indexAt_arr {t e : TypeId} {n : Nat} {k : IntKind} {i : Int} {ti ei : TI} (ht : T t = some ti) (hd : ti.desc = .array n e) (he : T e = some ei) (h0 : 0 ≤ i) (hlt : i < n) (blk off : Nat) (w : World) :
    (Instr.indexAt t (.pointer (some ⟨blk, off, none⟩)) (.int k i)).run P w = .ok (.pointer (some ⟨blk, off + i.toNat * ei.size, none⟩)) w := by
  have hu := r_und hT ht w
  rw [hd] at hu
  unfold Instr.indexAt
  rw [run_bindv (a := (k, i)) (w' := w) (by rfl), run_bindv hu]
  simp only [run_bindv (run_purev _ _), Instr.sureAddr]
  rw [run_bindv hu]
  simp only
  rw [if_pos ⟨h0, hlt⟩, run_bindv (r_size hT he w), add_plain]
  rfl
theorem opv_indexAddr_arr {t e : TypeId} {x ix : Operand} {n : Nat} {p : AV} {q : AV} {k : IntKind} {i : Int} {ti ei : TI} (hop : o.op = .indexAddr t x ix) (hx : evo σ.tm x = some p) (hi : evo σ.tm ix = some (.int k i))
    (ht : T t = some ti) (hd : ti.desc = .array n e) (he : T e = some ei) (h0 : 0 ≤ i) (hlt : i < n)
    (hq : (∃ id off, p = .ptr id off ∧ q = .ptr id (off + i.toNat * ei.size)) ∨ (∃ cells, p = .vptr cells ∧ q = .vptr (cells.drop (i.toNat * ei.size)))) : OpV P N o σ q σ.h σ.n := by
  refine opv_of fun K a hs => ?_
  have hvx := evo_sound hs.tr hx
  have hvi := (evo_sound hs.tr hi).int_inv
  rcases hq with ⟨id, off, rfl, rfl⟩ | ⟨cells, rfl, rfl⟩
  · obtain ⟨hv, hid⟩ := hvx.ptr_inv
    refine ⟨_, ?_, .ptr (off := off + i.toNat * ei.size) hid⟩
    unfold execOp; rw [hop]; refine run_v ?_
    rw [hv, hvi, ← Nat.add_assoc]
    exact r_indexAt_arr hT ht hd he h0 hlt _ _ _
  · obtain ⟨blk, off, vs, hv, _⟩ := vptr_cells hvx
    refine ⟨.pointer (some ⟨blk, off + i.toNat * ei.size, none⟩), ?_, vptr_drop (by rw [← hv]; exact hvx)⟩
    unfold execOp; rw [hop]; refine run_v ?_
    rw [hv, hvi]
    exact r_indexAt_arr hT ht hd he h0 hlt _ _ _
/-- An element of an array value. -/
theorem opv_index {t e : TypeId} {x ix : Operand} {n : Nat} {cs : List AV} {k : IntKind} {i : Int} {ti ei : TI} {y : AV} (hop : o.op = .index t x ix) (hx : evo σ.tm x = some (.agg cs)) (hi : evo σ.tm ix = some (.int k i))
    (ht : T t = some ti) (hd : ti.desc = .array n e) (he : T e = some ei) (h0 : 0 ≤ i) (hlt : i < n) (hy : partA ei cs (i.toNat * ei.size) = some y) : OpV P N o σ y σ.h σ.n := by
  refine opv_of fun K a hs => ?_
  obtain ⟨vs, hv, hvs⟩ := (evo_sound hs.tr hx).agg_inv
  have hvi := (evo_sound hs.tr hi).int_inv
  have hu := r_und hT ht K.w
  rw [hd] at hu
  obtain ⟨u, h1, h2⟩ := r_part hT he hvs hy
  refine ⟨u, ?_, h2⟩
  unfold execOp; rw [hop]; refine run_v ?_
  unfold Instr.index
  rw [run_bindv (a := (k, i)) (w' := K.w) (by rw [hvi]; rfl), run_bindv hu, hv]
  simp only
  rw [if_pos ⟨h0, hlt⟩, run_bindv (r_size hT he K.w)]
  exact h1

/-! slicing -/
def bnd (o : Option Nat) (d : Nat) : Nat := o.getD d
/-- Bounds of a slice expression: operands that are small whole numbers. -/
def isNat (σ : St) (x : Option Operand) (n : Option Nat) : Prop :=
  match x, n with
  | none, none => True
  | some x, some n => ∃ k, evo σ.tm x = some (.int k (n : Int))
  | _, _ => False
omit hT in
theorem r_bound {k : IntKind} {n y : Nat} (h : n ≤ y) (code : BoundsCode) (w : World) : (Instr.sliceBound (.int k (n : Int)) y code).run P w = .ok n w := by
  unfold Instr.sliceBound
  rw [run_bindv (a := (k, (n : Int))) (w' := w) (by rfl)]
  simp only
  rw [if_pos ⟨by omega, by omega⟩]
  simp
omit hT in
theorem isNat_eval {K : Ctx} {a : Act} (hs : SR K N σ a) {x : Option Operand} {n : Option Nat} (h : isNat σ x n) : ∃ k, x.map a.eval = n.map (fun (n : Nat) => Value.int k (n : Int)) := by
  cases x <;> cases n <;> simp only [isNat] at h
  · exact ⟨.i64, rfl⟩
  · obtain ⟨k, hk⟩ := h
    have := (evo_sound hs.tr hk).int_inv
    exact ⟨k, by simp [this]⟩
omit hT in
theorem r_bounds {isS : Bool} {len cap : Nat} {lo hi mx : Option Nat} {k1 k2 k3 : IntKind} (h1 : bnd lo 0 ≤ bnd hi len) (h2 : bnd hi len ≤ bnd mx cap) (h3 : bnd mx cap ≤ cap) (h4 : mx.isSome = true → hi.isSome = true) (w : World) :
    (Instr.sliceBounds isS len cap (lo.map fun (n : Nat) => Value.int k1 (n : Int)) (hi.map fun (n : Nat) => Value.int k2 (n : Int)) (mx.map fun (n : Nat) => Value.int k3 (n : Int))).run P w = .ok (bnd lo 0, bnd hi len, bnd mx cap) w := by
  unfold Instr.sliceBounds
  cases mx <;> cases hi <;> cases lo <;> simp only [bnd, Option.getD_none, Option.getD_some, Option.map_none, Option.map_some] at h1 h2 h3 ⊢
  all_goals first
    | (have h5 := h4 rfl; simp at h5; done)
    | (repeat (first | rw [run_bindv (r_bound h3 _ _)] | rw [run_bindv (r_bound h2 _ _)] | rw [run_bindv (r_bound h1 _ _)] | rw [run_bindv (run_purev _ _)])
       rfl)
/-- A part of what is only read (the bounds within its length). -/
theorem opv_slice_view {t e : TypeId} {x : Operand} {lo hi : Option Operand} {l h : Option Nat} {rows : List (List AV)} {ti ei : TI} (hop : o.op = .slice t x lo hi none) (hx : evo σ.tm x = some (.view rows))
    (hl : isNat σ lo l) (hh : isNat σ hi h) (ht : T t = some ti) (hd : ti.desc = .slice e) (he : T e = some ei) (h1 : bnd l 0 ≤ bnd h rows.length) (h2 : bnd h rows.length ≤ rows.length) (hsz : ∀ r, r ∈ rows → r.length = ei.size) :
    OpV P N o σ (.view ((rows.take (bnd h rows.length)).drop (bnd l 0))) σ.h σ.n := by
  refine opv_of fun K a hs => ?_
  obtain ⟨ad, c, esz, hv, hc, hlr, hcell⟩ := view_cells (evo_sound hs.tr hx)
  have hu := r_und hT ht K.w
  rw [hd] at hu
  have hlen : ((rows.take (bnd h rows.length)).drop (bnd l 0)).length = bnd h rows.length - bnd l 0 := by simp; omega
  refine ⟨.slice (if c = bnd l 0 then ad else ad.map (·.add (bnd l 0 * ei.size))) (bnd h rows.length - bnd l 0) (c - bnd l 0), ?_, ?_⟩
  · unfold execOp; rw [hop]; refine run_v ?_
    unfold Instr.sliceAt
    rw [run_bindv hu]
    simp only
    unfold Instr.slice
    rw [run_bindv hu, hv]
    simp only
    obtain ⟨k1, e1⟩ := isNat_eval hs hl
    obtain ⟨k2, e2⟩ := isNat_eval hs hh
    rw [e1, e2]
    have hb := r_bounds (P := P) (isS := true) (len := rows.length) (cap := c) (lo := l) (hi := h) (mx := none) (k1 := k1) (k2 := k2) (k3 := .i64) h1 (by show _ ≤ c; omega) (Nat.le_refl _) (by simp) K.w
    simp only [Option.map_none] at hb ⊢
    rw [run_bindv hb]
    simp only
    rw [run_bindv (r_size hT he K.w)]
    rfl
  · rw [← hlen]
    refine view_mk (esz := ei.size) (by rw [hlen]; omega) (fun r hr => hsz r (List.mem_of_mem_take (List.mem_of_mem_drop hr))) fun hp => ?_
    rw [hlen] at hp
    obtain ⟨blk, off, rfl, hro, hcells⟩ := hcell (by omega)
    rw [if_neg (by omega)]
    refine ⟨blk, off + bnd l 0 * ei.size, by simp [add_plain], hro, fun i r hi => ?_⟩
    rw [List.getElem?_drop, List.getElem?_take] at hi
    split at hi
    · obtain ⟨vs, hvs, hcs⟩ := hcells _ r hi
      refine ⟨vs, hvs, fun j u hu => ?_⟩
      have := hcs j u hu
      have e1 : esz = ei.size := by rw [← hlr r (List.mem_of_getElem? hi)]; exact hsz r (List.mem_of_getElem? hi)
      rw [e1, Nat.add_mul] at this
      rw [← this]
      congr 2
      omega
    · cases hi
/-- A part of own memory. -/
theorem opv_slice_own {t e : TypeId} {x : Operand} {lo hi mx : Option Operand} {l h m : Option Nat} {id off len : Nat} {cap : Option Nat} {sz : Nat} {ti ei : TI} (hop : o.op = .slice t x lo hi mx) (hx : evo σ.tm x = some (.slice id off len cap sz))
    (hl : isNat σ lo l) (hh : isNat σ hi h) (hm : isNat σ mx m) (ht : T t = some ti) (hd : ti.desc = .slice e) (he : T e = some ei) (h1 : bnd l 0 ≤ bnd h len) (h2 : bnd h len ≤ len) (h3 : ∀ m', m = some m' → bnd h len ≤ m' ∧ m' ≤ len ∧ h.isSome = true) (hsz : sz = ei.size) :
    OpV P N o σ (.slice id (off + bnd l 0 * sz) (bnd h len - bnd l 0) (match m with | some m => some (m - bnd l 0) | none => cap.map (· - bnd l 0)) sz) σ.h σ.n := by
  refine opv_of fun K a hs => ?_
  have hvx := evo_sound hs.tr hx
  have hu := r_und hT ht K.w
  rw [hd] at hu
  generalize hhv : a.eval x = v at hvx
  cases hvx with
  | @slice id off len cap sz o' c hid ho hc hl' hcap =>
    have hm2 : bnd h len ≤ bnd m c := by cases m with | none => show _ ≤ c; omega | some m' => exact (h3 m' rfl).1
    have hm3 : bnd m c ≤ c := by cases m with | none => exact Nat.le_refl _ | some m' => have := (h3 m' rfl).2.1; show m' ≤ c; omega
    have hm4 : m.isSome = true → h.isSome = true := by cases m with | none => simp | some m' => exact fun _ => (h3 m' rfl).2.2
    refine ⟨.slice (if bnd m c = bnd l 0 then some ⟨K.base id, o', none⟩ else some ⟨K.base id, o' + bnd l 0 * ei.size, none⟩) (bnd h len - bnd l 0) (bnd m c - bnd l 0), ?_, ?_⟩
    · unfold execOp; rw [hop]; refine run_v ?_
      unfold Instr.sliceAt
      rw [run_bindv hu]
      simp only
      unfold Instr.slice
      rw [run_bindv hu, hhv]
      simp only
      obtain ⟨k1, e1⟩ := isNat_eval hs hl
      obtain ⟨k2, e2⟩ := isNat_eval hs hh
      obtain ⟨k3, e3⟩ := isNat_eval hs hm
      rw [e1, e2, e3]
      have hb := r_bounds (P := P) (isS := true) (len := len) (cap := c) (lo := l) (hi := h) (mx := m) (k1 := k1) (k2 := k2) (k3 := k3) h1 hm2 hm3 hm4 K.w
      rw [run_bindv hb]
      simp only
      rw [run_bindv (r_size hT he K.w)]
      simp only [Option.map_some, add_plain]
      rfl
    · by_cases e0 : bnd m c = bnd l 0
      · rw [if_pos e0]
        exact .slice (o := o') hid (fun hp => absurd hp (by omega)) (fun hp => absurd hp (by omega)) (by omega) (fun c0 hc0 => by
          cases m with
          | none => cases cap with
            | none => simp at hc0
            | some c1 => simp at hc0; have := hcap c1 rfl; simp only [bnd, Option.getD_none] at *; omega
          | some m' => simp at hc0; simp only [bnd, Option.getD_some] at *; omega)
      · rw [if_neg e0]
        refine .slice (o := o' + bnd l 0 * ei.size) hid (fun hp => ?_) (fun hp => ?_) (by omega) (fun c0 hc0 => ?_)
        · rw [ho (by omega), hsz]; omega
        · have := hc (by omega)
          have h5 : (bnd m c - bnd l 0) * sz + bnd l 0 * sz ≤ c * sz := by rw [← Nat.add_mul]; exact Nat.mul_le_mul_right _ (by omega)
          rw [← hsz]; omega
        · cases m with
          | none => cases cap with
            | none => simp at hc0
            | some c1 => simp at hc0; have := hcap c1 rfl; simp only [bnd, Option.getD_none] at *; omega
          | some m' => simp at hc0; simp only [bnd, Option.getD_some] at *; omega
end
end Go.Lg
