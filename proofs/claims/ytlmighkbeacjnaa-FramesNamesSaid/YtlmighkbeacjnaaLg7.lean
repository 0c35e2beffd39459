/- Operations on memory. -/
import Derived.Test.YtlmighkbeacjnaaLg6
set_option linter.unusedVariables false
set_option linter.unusedSimpArgs false
set_option linter.unusedSectionVars false
namespace Go.Lg
open Go

theorem upd_upd {α : Type} (f : Nat → α) (i : Nat) (x y : α) : upd (upd f i x) i y = upd f i y := by
  funext j; unfold upd; split <;> rfl
def cellsA : AV → List AV
  | .agg cs => cs
  | x => [x]
def scalA : AV → Bool
  | .agg _ | .tuple _ | .any => false
  | _ => true
def known : AV → Bool
  | .any => false
  | _ => true
theorem cells_VRs {K : Ctx} {x : AV} {v : Value} (hk : known x = true) (h : VR K x v) : VRs K (cellsA x) v.cells.toList := by
  cases x with
  | agg cs => obtain ⟨vs, rfl, hv⟩ := h.agg_inv; exact hv
  | any => cases hk
  | _ => cases h <;> exact .cons (by constructor <;> assumption) (.nil K)
def scalV : Value → Bool
  | .agg _ | .tuple _ => false
  | _ => true
theorem scal_of {K : Ctx} {x : AV} {v : Value} (h : VR K x v) (hs : scalA x = true) : scalV v = true := by cases h <;> first | rfl | cases hs

/-- Cells written from a place on. -/
def wr : List AV → Nat → List AV → List AV
  | cs, _, [] => cs
  | cs, off, y :: ys => wr (cs.set off y) (off + 1) ys
theorem wr_length : ∀ (ys cs : List AV) (off : Nat), (wr cs off ys).length = cs.length
  | [], _, _ => rfl
  | y :: ys, cs, off => by unfold wr; rw [wr_length ys]; simp

theorem own_cells {K : Ctx} {id : Nat} {cs : List AV} {e : TypeId} (h : BR K id (.cells cs e)) (off : Nat) :
    ∃ vs, VRs K (cs.drop off) vs ∧ ∀ (j : Nat) v, vs[j]? = some v → K.w.cell? ⟨K.base id, K.boff id + off + j, none⟩ = some v := by
  obtain ⟨arr, fr, ha, ht, hz, hl, hv⟩ := h
  refine ⟨(arr.toList.drop (K.boff id + off)).take (cs.length - off), ⟨?_, fun i x v hx hv' => ?_⟩, fun j v hj => ?_⟩
  · simp; omega
  · rw [List.getElem?_drop] at hx
    have hi : i < cs.length - off := by have := (List.getElem?_eq_some_iff.1 hx).1; omega
    rw [List.getElem?_take, if_pos hi, List.getElem?_drop, Array.getElem?_toList] at hv'
    obtain ⟨u, hu, hr⟩ := hv _ x hx
    rw [← Nat.add_assoc] at hu
    rw [hu] at hv'; cases hv'; exact hr
  · rw [List.getElem?_take] at hj
    split at hj
    · rw [List.getElem?_drop, Array.getElem?_toList] at hj
      simp [World.cell?, ha, hj]
    · cases hj

section
variable {P : Program} {T : TT} (hT : TOK P T) {N : Nat} {o : Oper} {σ : St}

/-- One store. -/
theorem store_one {K : Ctx} {H : Heap} (hr : Rel K H) {id off : Nat} {cs : List AV} {e : TypeId} (hH : H id = some (.cells cs e)) (hoff : off < cs.length) {y : AV} {v : Value} (hv : VR K y v) (hs : scalA y = true) :
    ∃ w', (store ⟨K.base id, K.boff id + off, none⟩ v).run P K.w = .ok () w' ∧ Rel (K.at_ w') (upd H id (some (.cells (cs.set off y) e))) ∧ Step K H (K.at_ w') (upd H id (some (.cells (cs.set off y) e))) := by
  have hid : H id ≠ none := by rw [hH]; simp
  obtain ⟨arr, fr, ha, ht, hz, hl, hcs⟩ := hr.br id _ hH
  have hlt : K.boff id + off < arr.size := by omega
  have hsv := scal_of hv hs
  let w' := K.w.setCell ⟨K.base id, K.boff id + off, none⟩ v
  have hb' : w'.heap[K.base id]? = some (.cells (arr.setIfInBounds (K.boff id + off) v) e fr) := by
    simp only [w', World.setCell, Array.getElem?_modify, if_true, ha]; rfl
  have hw : Wrote K.w w' (K.base id) := ⟨by simp [w', World.setCell], fun b hb => by
    simp only [w', World.setCell, Array.getElem?_modify]; rw [if_neg (fun e => hb e.symm)], rfl, rfl, rfl⟩
  have hE := wrote_ext hr hid hw
  have hbr : BR (K.at_ w') id (.cells (cs.set off y) e) := by
    refine ⟨_, fr, hb', fun j hj => ht j (by simpa using hj), by show _ = K.bsz id; simpa using hz, by show K.boff id + _ ≤ _; simpa using hl, fun j x hx => ?_⟩
    rw [List.getElem?_set] at hx
    by_cases hj : off = j
    · subst hj
      rw [if_pos rfl, if_pos hoff] at hx
      cases hx
      exact ⟨v, by show (arr.setIfInBounds (K.boff id + off) v)[K.boff id + off]? = _; simp [hlt], hv.mono hE⟩
    · rw [if_neg hj] at hx
      obtain ⟨u, hu, hru⟩ := hcs j x hx
      refine ⟨u, ?_, hru.mono hE⟩
      show (arr.setIfInBounds (K.boff id + off) v)[K.boff id + j]? = _
      rw [Array.getElem?_setIfInBounds_ne (by omega)]
      exact hu
  obtain ⟨h1, h2⟩ := wrote_ok hr hid hw hbr
  refine ⟨w', ?_, h1, h2⟩
  have hc : K.w.cell? ⟨K.base id, K.boff id + off, none⟩ = some arr[K.boff id + off] := by simp [World.cell?, ha, hlt]
  have hf : K.w.frozen? ⟨K.base id, K.boff id + off, none⟩ = false := by simp only [World.frozen?, ha]; exact ht _ hlt
  unfold store
  cases v <;> first | (simp only [Sem.run, hc, hf]; rfl) | (simp [scalV] at hsv)
theorem store_cells {e : TypeId} {id : Nat} : ∀ (ys : List AV) (vs : List Value) (K : Ctx) (H : Heap) (cs : List AV) (off j : Nat), Rel K H → H id = some (.cells cs e) → off + j + ys.length ≤ cs.length → VRs K ys vs → (∀ y, y ∈ ys → scalA y = true) →
    ∃ w', (storeCells ⟨K.base id, K.boff id + off, none⟩ vs j).run P K.w = .ok () w' ∧ Rel (K.at_ w') (upd H id (some (.cells (wr cs (off + j) ys) e))) ∧ Step K H (K.at_ w') (upd H id (some (.cells (wr cs (off + j) ys) e)))
  | [], vs, K, H, cs, off, j, hr, hH, _, hv, _ => by
    have : vs = [] := List.eq_nil_of_length_eq_zero hv.1
    subst this
    have e1 : upd H id (some (.cells (wr cs (off + j) []) e)) = H := by funext i; unfold upd wr; split <;> simp_all
    rw [e1]
    exact ⟨K.w, rfl, hr, .refl _ _⟩
  | y :: ys, vs, K, H, cs, off, j, hr, hH, hlen, hv, hs => by
    cases vs with
    | nil => have := hv.1; simp at this
    | cons v vs =>
      simp only [List.length_cons] at hlen
      obtain ⟨w1, h1, hr1, hst1⟩ := store_one (P := P) hr (off := off + j) hH (by omega) hv.head (hs y (by simp))
      have hE := hst1.ext hr
      obtain ⟨w2, h2, hr2, hst2⟩ := store_cells ys vs (K.at_ w1) _ (cs.set (off + j) y) off (j + 1) hr1 (upd_same _ _ _) (by simp; omega) (hv.tail.mono hE) (fun z hz => hs z (by simp [hz]))
      rw [upd_upd] at hr2 hst2
      refine ⟨w2, ?_, hr2, hst1.trans hst2⟩
      unfold storeCells
      rw [add_plain, Nat.add_assoc, run_bindv h1]
      exact h2
include hT
theorem opv_load {t : TypeId} {x : Operand} {id off : Nat} {cs : List AV} {e : TypeId} {i : TI} {y : AV} (hop : o.op = .load t x) (hx : evo σ.tm x = some (.ptr id off)) (hH : σ.h id = some (.cells cs e)) (ht : T t = some i)
    (hy : loadA i (cs.drop off) = some y) : OpV P N o σ y σ.h σ.n := by
  refine opv_of fun K a hs => ?_
  obtain ⟨hv, hid⟩ := (evo_sound hs.tr hx).ptr_inv
  obtain ⟨vs, h1, h2⟩ := own_cells (hs.rel.br id _ hH) off
  obtain ⟨v, h3, h4⟩ := r_loadVar hT ht h1 h2 hy
  refine ⟨v, ?_, h4⟩
  unfold execOp
  rw [hop]
  refine run_v ?_
  unfold Instr.loadAt
  rw [run_bindv (a := ⟨K.base id, K.boff id + off, none⟩) (w' := K.w) (by rw [hv]; rfl)]
  exact h3
theorem opv_store {t : TypeId} {x z : Operand} {id off : Nat} {cs : List AV} {e : TypeId} {i : TI} {y : AV} (hop : o.op = .store t x z) (hx : evo σ.tm x = some (.ptr id off)) (hz : evo σ.tm z = some y) (hH : σ.h id = some (.cells cs e)) (ht : T t = some i)
    (hlen : (cellsA y).length = i.size) (hoff : off + i.size ≤ cs.length) (hs : ∀ c, c ∈ cellsA y → scalA c = true) :
    OpV P N o σ (.tuple []) (upd σ.h id (some (.cells (wr cs off (cellsA y)) e))) σ.n := by
  intro K a hsr
  obtain ⟨hv, hid⟩ := (evo_sound hsr.tr hx).ptr_inv
  have hvz := evo_sound hsr.tr hz
  have hk : known y = true := by cases y <;> first | rfl | (have := hs .any (by simp [cellsA]); cases this)
  have hcs := cells_VRs hk hvz
  obtain ⟨w', h1, h2, h3⟩ := store_cells (P := P) (id := id) (e := e) (cellsA y) (a.eval z).cells.toList K σ.h cs off 0 hsr.rel hH (by omega) hcs hs
  refine ⟨undef, K.at_ w', .inr ⟨?_, rfl⟩, hsr.next, h2, h3, VR.undef_ _⟩
  unfold execOp
  rw [hop]
  have : (Instr.storeAt t (a.eval x) (a.eval z)).run P K.w = .ok () w' := by
    unfold Instr.storeAt
    rw [run_bindv (a := ⟨K.base id, K.boff id + off, none⟩) (w' := K.w) (by rw [hv]; rfl)]
    unfold storeVar
    rw [run_bindv (r_size hT ht K.w)]
    have hz : (a.eval z).cells.size = i.size := by rw [← hlen, ← hcs.1]; simp
    rw [if_neg (by simp [hz])]
    exact h1
  show (do Instr.storeAt t (a.eval x) (a.eval z); pure Next.skip : Sem Next).run P K.w = _
  rw [run_bindv this]
  rfl
omit hT in
theorem run_box (t : TypeId) (v : Value) (w : World) : (Instr.box t v).run P w = .ok (.pointer (some ⟨w.heap.size, 0, none⟩)) { w with heap := w.heap.push (.cells v.cells t) } := rfl
omit hT in
theorem thawed0 (arr : Array Value) : thawed arr (0, 0) := fun j _ => by simp
omit hT in
theorem new_cells {K : Ctx} {H : Heap} (hr : Rel K H) {arr : Array Value} {t : TypeId} {cs : List AV} (hv : VRs K cs arr.toList) : BR (K.newOwn (.cells arr t) arr.size) K.next (.cells cs t) := by
  have hE := newOwn_ext hr (.cells arr t) arr.size
  refine ⟨arr, (0, 0), ?_, thawed0 _, ?_, ?_, fun j x hx => ?_⟩
  · show (K.w.heap.push _)[upd K.base K.next _ K.next]? = _; rw [upd_same]; simp
  · show _ = upd K.bsz K.next _ K.next; rw [upd_same]
  · show upd K.boff K.next 0 K.next + _ ≤ _; rw [upd_same]; have := hv.1; simp at this; omega
  · obtain ⟨v, h1, h2⟩ := hv.get hx
    refine ⟨v, ?_, h2.mono hE⟩
    show arr[upd K.boff K.next 0 K.next + j]? = _
    rw [upd_same, Nat.zero_add, ← Array.getElem?_toList]; exact h1
omit hT in
theorem ptr_new (K : Ctx) (o : Obj) (sz : Nat) : VR (K.newOwn o sz) (.ptr K.next 0) (.pointer (some ⟨K.w.heap.size, 0, none⟩)) := by
  have := VR.ptr (K := K.newOwn o sz) (id := K.next) (off := 0) (Nat.lt_succ_self _)
  have e1 : (K.newOwn o sz).base K.next = K.w.heap.size := upd_same _ _ _
  have e2 : (K.newOwn o sz).boff K.next = 0 := upd_same _ _ _
  rw [e1, e2] at this; exact this
omit hT in
theorem opv_box {t : TypeId} {x : Operand} {y : AV} (hop : o.op = .box t x) (hx : evo σ.tm x = some y) (hk : known y = true) : OpV P N o σ (.ptr σ.n 0) (upd σ.h σ.n (some (.cells (cellsA y) t))) (σ.n + 1) := by
  intro K a hs
  have hv := cells_VRs hk (evo_sound hs.tr hx)
  obtain ⟨h1, h2⟩ := newOwn_ok hs.rel (new_cells hs.rel (t := t) hv)
  refine ⟨_, K.newOwn (.cells (a.eval x).cells t) (a.eval x).cells.size, .inl ?_, by rw [← hs.next]; rfl, by rw [← hs.next]; exact h1, by rw [← hs.next]; exact h2, by rw [← hs.next]; exact ptr_new K _ _⟩
  unfold execOp; rw [hop]; exact run_v (run_box _ _ _)
omit hT in
theorem vptr_new {K : Ctx} {H : Heap} (hr : Rel K H) {arr : Array Value} {t : TypeId} {cs : List AV} (hv : VRs K cs arr.toList) : VR (K.newRo (.cells arr t)) (.vptr cs) (.pointer (some ⟨K.w.heap.size, 0, none⟩)) := by
  refine vptr_mk (vs := arr.toList) (.inr rfl) (hv.mono (newRo_ext hr _)) fun j u hu => ?_
  rw [Array.getElem?_toList] at hu
  have e1 : (K.newRo (.cells arr t)).w.heap[K.w.heap.size]? = some (.cells arr t) := push_new K.w _
  simp only [World.cell?, e1, Option.isSome_none, Bool.false_eq_true, if_false, Nat.zero_add]
  exact hu
omit hT in
/-- A box that nobody writes. -/
theorem opv_box_ro {t : TypeId} {x : Operand} {y : AV} (hop : o.op = .box t x) (hx : evo σ.tm x = some y) (hk : known y = true) : OpV P N o σ (.vptr (cellsA y)) σ.h σ.n := by
  intro K a hs
  have hv := cells_VRs hk (evo_sound hs.tr hx)
  obtain ⟨h1, h2⟩ := newRo_ok hs.rel (.cells (a.eval x).cells t)
  refine ⟨_, K.newRo (.cells (a.eval x).cells t), .inl ?_, hs.next, h1, h2, vptr_new hs.rel hv⟩
  unfold execOp; rw [hop]; exact run_v (run_box _ _ _)
theorem opv_alloc {t : TypeId} {i : TI} (hop : o.op = .alloc t) (ht : T t = some i) : OpV P N o σ (.ptr σ.n 0) (upd σ.h σ.n (some (.cells i.zero t))) (σ.n + 1) := by
  intro K a hs
  obtain ⟨z, hz, _, _, hv⟩ := r_zero hT ht K.w
  obtain ⟨h1, h2⟩ := newOwn_ok hs.rel (new_cells hs.rel (t := t) (hv K))
  refine ⟨_, K.newOwn (.cells z.cells t) z.cells.size, .inl ?_, by rw [← hs.next]; rfl, by rw [← hs.next]; exact h1, by rw [← hs.next]; exact h2, by rw [← hs.next]; exact ptr_new K _ _⟩
  unfold execOp; rw [hop]; refine run_v ?_
  unfold Instr.alloc
  rw [run_bindv hz]; rfl
end
end Go.Lg
