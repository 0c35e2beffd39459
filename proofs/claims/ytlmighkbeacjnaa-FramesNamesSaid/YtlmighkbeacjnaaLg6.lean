/- Own memory: a new block, a block that is written, one that is renamed; and the operations on memory. -/
import Derived.Test.YtlmighkbeacjnaaLg5
import Derived.Laws.World
set_option linter.unusedVariables false
set_option linter.unusedSimpArgs false
set_option linter.unusedSectionVars false
namespace Go.Lg
open Go

def Ctx.newOwn (K : Ctx) (o : Obj) (sz : Nat) : Ctx :=
  { base := upd K.base K.next K.w.heap.size, boff := upd K.boff K.next 0, bsz := upd K.bsz K.next sz, next := K.next + 1, ro := K.ro, w := { K.w with heap := K.w.heap.push o } }
def Ctx.newRo (K : Ctx) (o : Obj) : Ctx := { K with ro := fun b => K.ro b ∨ b = K.w.heap.size, w := { K.w with heap := K.w.heap.push o } }
def Ctx.at_ (K : Ctx) (w : World) : Ctx := { K with w }

theorem push_old (w : World) (o : Obj) {b : Nat} (h : b < w.heap.size) : (w.heap.push o)[b]? = w.heap[b]? := by
  rw [Array.getElem?_push, if_neg (by omega)]
theorem push_new (w : World) (o : Obj) : (w.heap.push o)[w.heap.size]? = some o := by simp

section
variable {K : Ctx} {H : Heap}
theorem Rel.size_lt (hr : Rel K H) {id : Nat} (h : H id ≠ none) : K.base id < K.w.heap.size := by
  cases hb : H id with
  | none => exact absurd hb h
  | some b =>
    have := hr.br id b hb
    have key : ∀ o, K.w.heap[K.base id]? = some o → K.base id < K.w.heap.size := fun o ho => (Array.getElem?_eq_some_iff.1 ho).1
    cases b with
    | cells cs e => obtain ⟨arr, fr, ha, _⟩ := this; exact key _ ha
    | map es => obtain ⟨arr, c, ha, _⟩ := this; exact key _ ha
    | loop l => obtain ⟨f, a, d, ha, _⟩ := this; exact key _ ha
    | deferred => exact key _ this
theorem newOwn_ext (hr : Rel K H) (o : Obj) (sz : Nat) : Ext K (K.newOwn o sz) :=
  ⟨Nat.le_succ _, fun id hid => ⟨upd_ne _ _ (by omega), upd_ne _ _ (by omega), upd_ne _ _ (by omega)⟩, fun _ h => h, fun b hb => push_old _ _ (hr.ros b hb)⟩
theorem newOwn_ok (hr : Rel K H) {o : Obj} {sz : Nat} {b : Blk} (hb : BR (K.newOwn o sz) K.next b) :
    Rel (K.newOwn o sz) (upd H K.next (some b)) ∧ Step K H (K.newOwn o sz) (upd H K.next (some b)) := by
  have hE := newOwn_ext hr o sz
  have hne : ∀ id, H id ≠ none → id ≠ K.next := fun id h => Nat.ne_of_lt (hr.lt id h)
  have hold : ∀ id, upd H K.next (some b) id ≠ none → id = K.next ∨ H id ≠ none := fun id h => by
    by_cases e : id = K.next
    · exact .inl e
    · rw [upd_ne _ _ e] at h; exact .inr h
  have hbn : (K.newOwn o sz).base K.next = K.w.heap.size := upd_same _ _ _
  have hbo : ∀ id, H id ≠ none → (K.newOwn o sz).base id = K.base id := fun id h => upd_ne _ _ (hne id h)
  refine ⟨⟨fun id h => ?_, fun id h => ?_, fun id b' h => ?_, fun i j hi hj e => ?_, fun b' hb' => ?_⟩, ?_⟩
  · rcases hold id h with rfl | h
    · exact Nat.lt_succ_self _
    · exact Nat.lt_succ_of_lt (hr.lt id h)
  · rcases hold id h with rfl | h
    · rw [hbn]; intro hro; exact absurd (hr.ros _ hro) (Nat.lt_irrefl _)
    · rw [hbo id h]; exact hr.nro id h
  · by_cases e : id = K.next
    · subst e; rw [upd_same] at h; cases h; exact hb
    · rw [upd_ne _ _ e] at h
      have hid : H id ≠ none := by rw [h]; simp
      exact (hr.br id b' h).mono hE (hr.lt id hid) (push_old _ _ (hr.size_lt hid))
  · rcases hold i hi with rfl | hi <;> rcases hold j hj with rfl | hj
    · rfl
    · rw [hbn, hbo j hj] at e; exact absurd (hr.size_lt hj) (by omega)
    · rw [hbn, hbo i hi] at e; exact absurd (hr.size_lt hi) (by omega)
    · rw [hbo i hi, hbo j hj] at e; exact hr.inj i j hi hj e
  · have := hr.ros b' hb'; show b' < (K.w.heap.push o).size; simp; omega
  · refine ⟨hE.next, hE.mu, hE.ro, by show _ ≤ (K.w.heap.push o).size; simp, fun b' hb' _ => push_old _ _ hb', ?_, fun b' h => .inl h, rfl, rfl, rfl⟩
    rintro b' ⟨id, hid, rfl⟩
    rcases hold id hid with rfl | h
    · exact .inr (by rw [hbn]; exact Nat.le_refl _)
    · exact .inl ⟨id, h, (hbo id h).symm⟩
theorem newRo_ext (hr : Rel K H) (o : Obj) : Ext K (K.newRo o) :=
  ⟨Nat.le_refl _, fun _ _ => ⟨rfl, rfl, rfl⟩, fun _ h => .inl h, fun b hb => push_old _ _ (hr.ros b hb)⟩
theorem newRo_ok (hr : Rel K H) (o : Obj) : Rel (K.newRo o) H ∧ Step K H (K.newRo o) H := by
  have hE := newRo_ext hr o
  refine ⟨⟨hr.lt, fun id h => ?_, fun id b h => ?_, hr.inj, fun b hb => ?_⟩, ?_⟩
  · rintro (h1 | h1)
    · exact hr.nro id h h1
    · exact absurd (hr.size_lt h) (by show ¬ K.base id < _; have : K.base id = K.w.heap.size := h1; omega)
  · have hid : H id ≠ none := by rw [h]; simp
    exact (hr.br id b h).mono hE (hr.lt id hid) (push_old _ _ (hr.size_lt hid))
  · show b < (K.w.heap.push o).size
    rcases hb with hb | hb
    · have := hr.ros b hb; simp; omega
    · simp; omega
  · refine ⟨Nat.le_refl _, fun _ _ => ⟨rfl, rfl, rfl⟩, fun _ h => .inl h, by show _ ≤ (K.w.heap.push o).size; simp, fun b hb _ => push_old _ _ hb, fun b h => .inl h, ?_, rfl, rfl, rfl⟩
    rintro b (h | h)
    · exact .inl h
    · exact .inr (.inr (by omega))
/-- Only the block of one id is written. -/
structure Wrote (w w' : World) (blk : Nat) : Prop where
  size : w'.heap.size = w.heap.size
  same : ∀ b, b ≠ blk → w'.heap[b]? = w.heap[b]?
  os : w'.os = w.os
  tape : w'.tape = w.tape
  output : w'.output = w.output
theorem wrote_ext (hr : Rel K H) {w' : World} {id : Nat} (hid : H id ≠ none) (hw : Wrote K.w w' (K.base id)) : Ext K (K.at_ w') :=
  ⟨Nat.le_refl _, fun _ _ => ⟨rfl, rfl, rfl⟩, fun _ h => h, fun b hb => hw.same b (fun e => hr.nro id hid (e ▸ hb))⟩
theorem wrote_ok (hr : Rel K H) {w' : World} {id : Nat} {b : Blk} (hid : H id ≠ none) (hw : Wrote K.w w' (K.base id)) (hb : BR (K.at_ w') id b) :
    Rel (K.at_ w') (upd H id (some b)) ∧ Step K H (K.at_ w') (upd H id (some b)) := by
  have hE := wrote_ext hr hid hw
  have hold : ∀ j, upd H id (some b) j ≠ none → H j ≠ none := fun j h => by
    by_cases e : j = id
    · subst e; exact hid
    · rwa [upd_ne _ _ e] at h
  refine ⟨⟨fun j h => hr.lt j (hold j h), fun j h => hr.nro j (hold j h), fun j b' h => ?_, fun i j hi hj e => hr.inj i j (hold i hi) (hold j hj) e, fun b' h => by show b' < w'.heap.size; rw [hw.size]; exact hr.ros b' h⟩, ?_⟩
  · by_cases e : j = id
    · subst e; rw [upd_same] at h; cases h; exact hb
    · rw [upd_ne _ _ e] at h
      have hj : H j ≠ none := by rw [h]; simp
      exact (hr.br j b' h).mono hE (hr.lt j hj) (hw.same _ (fun e' => e (hr.inj j id hj hid e')))
  · refine ⟨Nat.le_refl _, fun _ _ => ⟨rfl, rfl, rfl⟩, fun _ h => h, by show _ ≤ w'.heap.size; rw [hw.size]; exact Nat.le_refl _, fun b' _ hn => hw.same b' (fun e => hn ⟨id, hid, e.symm⟩), ?_, fun b' h => .inl h, hw.os, hw.tape, hw.output⟩
    rintro b' ⟨j, hj, rfl⟩
    exact .inl ⟨j, hold j hj, rfl⟩
/-- A block that is written and goes on under a new id. -/
def Ctx.renamed (K : Ctx) (w : World) (id off : Nat) : Ctx :=
  { base := upd K.base K.next (K.base id), boff := upd K.boff K.next (K.boff id + off), bsz := upd K.bsz K.next (K.bsz id), next := K.next + 1, ro := K.ro, w }
theorem renamed_ext (hr : Rel K H) {w' : World} {id off : Nat} (hid : H id ≠ none) (hw : Wrote K.w w' (K.base id)) : Ext K (K.renamed w' id off) :=
  ⟨Nat.le_succ _, fun j hj => ⟨upd_ne _ _ (by omega), upd_ne _ _ (by omega), upd_ne _ _ (by omega)⟩, fun _ h => h, fun b hb => hw.same b (fun e => hr.nro id hid (e ▸ hb))⟩
theorem renamed_ok (hr : Rel K H) {w' : World} {id off : Nat} {b : Blk} (hid : H id ≠ none) (hw : Wrote K.w w' (K.base id)) (hb : BR (K.renamed w' id off) K.next b) :
    Rel (K.renamed w' id off) (upd (upd H id none) K.next (some b)) ∧ Step K H (K.renamed w' id off) (upd (upd H id none) K.next (some b)) := by
  have hE := renamed_ext (off := off) hr hid hw
  have hold : ∀ j, upd (upd H id none) K.next (some b) j ≠ none → j = K.next ∨ (j ≠ id ∧ H j ≠ none) := fun j h => by
    by_cases e : j = K.next
    · exact .inl e
    · rw [upd_ne _ _ e] at h
      by_cases e2 : j = id
      · subst e2; rw [upd_same] at h; exact absurd rfl h
      · rw [upd_ne _ _ e2] at h; exact .inr ⟨e2, h⟩
  have hbn : (K.renamed w' id off).base K.next = K.base id := upd_same _ _ _
  have hbo : ∀ j, H j ≠ none → (K.renamed w' id off).base j = K.base j := fun j h => upd_ne _ _ (Nat.ne_of_lt (hr.lt j h))
  refine ⟨⟨fun j h => ?_, fun j h => ?_, fun j b' h => ?_, fun i j hi hj e => ?_, fun b' h => by show b' < w'.heap.size; rw [hw.size]; exact hr.ros b' h⟩, ?_⟩
  · rcases hold j h with rfl | ⟨_, h⟩
    · exact Nat.lt_succ_self _
    · exact Nat.lt_succ_of_lt (hr.lt j h)
  · rcases hold j h with rfl | ⟨_, h⟩
    · rw [hbn]; exact hr.nro id hid
    · rw [hbo j h]; exact hr.nro j h
  · by_cases e : j = K.next
    · subst e; rw [upd_same] at h; cases h; exact hb
    · have hj := hold j (by rw [h]; simp)
      rcases hj with rfl | ⟨e2, hj⟩
      · exact absurd rfl e
      · rw [upd_ne _ _ e, upd_ne _ _ e2] at h
        exact (hr.br j b' h).mono hE (hr.lt j hj) (hw.same _ (fun e' => e2 (hr.inj j id hj hid e')))
  · rcases hold i hi with rfl | ⟨ei, hi⟩ <;> rcases hold j hj with rfl | ⟨ej, hj⟩
    · rfl
    · rw [hbn, hbo j hj] at e; exact absurd (hr.inj j id hj hid e.symm) ej
    · rw [hbn, hbo i hi] at e; exact absurd (hr.inj i id hi hid e) ei
    · rw [hbo i hi, hbo j hj] at e; exact hr.inj i j hi hj e
  · refine ⟨hE.next, hE.mu, fun _ h => h, by show _ ≤ w'.heap.size; rw [hw.size]; exact Nat.le_refl _, fun b' _ hn => hw.same b' (fun e => hn ⟨id, hid, e.symm⟩), ?_, fun b' h => .inl h, hw.os, hw.tape, hw.output⟩
    rintro b' ⟨j, hj, rfl⟩
    rcases hold j hj with rfl | ⟨_, hj⟩
    · exact .inl ⟨id, hid, hbn.symm⟩
    · exact .inl ⟨j, hj, (hbo j hj).symm⟩
/-- A draw. -/
theorem drew_ok (hr : Rel K H) (n : Nat) : Rel (K.at_ { K.w with drawn := n }) H ∧ Step K H (K.at_ { K.w with drawn := n }) H ∧ Ext K (K.at_ { K.w with drawn := n }) := by
  have hE : Ext K (K.at_ { K.w with drawn := n }) := ⟨Nat.le_refl _, fun _ _ => ⟨rfl, rfl, rfl⟩, fun _ h => h, fun _ _ => rfl⟩
  exact ⟨⟨hr.lt, hr.nro, fun id b h => (hr.br id b h).mono hE (hr.lt id (by rw [h]; simp)) rfl, hr.inj, hr.ros⟩,
    ⟨Nat.le_refl _, fun _ _ => ⟨rfl, rfl, rfl⟩, fun _ h => h, Nat.le_refl _, fun _ _ _ => rfl, fun _ h => .inl h, fun _ h => .inl h, rfl, rfl, rfl⟩, hE⟩

/-! ### Ghost steps: a block that is given up; a block that is only read from now on. -/
theorem kill_ok (hr : Rel K H) (id : Nat) : Rel K (upd H id none) ∧ Step K H K (upd H id none) := by
  have hold : ∀ j, upd H id none j ≠ none → j ≠ id ∧ H j ≠ none := fun j h => by
    by_cases e : j = id
    · subst e; rw [upd_same] at h; exact absurd rfl h
    · rw [upd_ne _ _ e] at h; exact ⟨e, h⟩
  refine ⟨⟨fun j h => hr.lt j (hold j h).2, fun j h => hr.nro j (hold j h).2, fun j b h => ?_, fun i j hi hj e => hr.inj i j (hold i hi).2 (hold j hj).2 e, hr.ros⟩, ?_⟩
  · have hj := hold j (by rw [h]; simp)
    rw [upd_ne _ _ hj.1] at h
    exact hr.br j b h
  · refine ⟨Nat.le_refl _, fun _ _ => ⟨rfl, rfl, rfl⟩, fun _ h => h, Nat.le_refl _, fun _ _ _ => rfl, ?_, fun _ h => .inl h, rfl, rfl, rfl⟩
    rintro b ⟨j, hj, rfl⟩
    exact .inl ⟨j, (hold j hj).2, rfl⟩
def Ctx.roAlso (K : Ctx) (blk : Nat) : Ctx := { K with ro := fun b => K.ro b ∨ b = blk }
theorem freeze_ok (hr : Rel K H) {id : Nat} (hid : H id ≠ none) : Rel (K.roAlso (K.base id)) (upd H id none) ∧ Step K H (K.roAlso (K.base id)) (upd H id none) ∧ Ext K (K.roAlso (K.base id)) := by
  have hE : Ext K (K.roAlso (K.base id)) := ⟨Nat.le_refl _, fun _ _ => ⟨rfl, rfl, rfl⟩, fun _ h => .inl h, fun _ _ => rfl⟩
  have hold : ∀ j, upd H id none j ≠ none → j ≠ id ∧ H j ≠ none := fun j h => by
    by_cases e : j = id
    · subst e; rw [upd_same] at h; exact absurd rfl h
    · rw [upd_ne _ _ e] at h; exact ⟨e, h⟩
  refine ⟨⟨fun j h => hr.lt j (hold j h).2, fun j h => ?_, fun j b h => ?_, fun i j hi hj e => hr.inj i j (hold i hi).2 (hold j hj).2 e, fun b h => ?_⟩, ?_, hE⟩
  · rintro (h1 | h1)
    · exact hr.nro j (hold j h).2 h1
    · exact (hold j h).1 (hr.inj j id (hold j h).2 hid h1)
  · have hj := hold j (by rw [h]; simp)
    rw [upd_ne _ _ hj.1] at h
    exact (hr.br j b h).mono hE (hr.lt j hj.2) rfl
  · rcases h with h | h
    · exact hr.ros b h
    · rw [h]; exact hr.size_lt hid
  · refine ⟨Nat.le_refl _, fun _ _ => ⟨rfl, rfl, rfl⟩, fun _ h => .inl h, Nat.le_refl _, fun _ _ _ => rfl, ?_, ?_, rfl, rfl, rfl⟩
    · rintro b ⟨j, hj, rfl⟩
      exact .inl ⟨j, (hold j hj).2, rfl⟩
    · rintro b (h | h)
      · exact .inl h
      · exact .inr (.inl ⟨id, hid, h.symm⟩)
end
end Go.Lg
