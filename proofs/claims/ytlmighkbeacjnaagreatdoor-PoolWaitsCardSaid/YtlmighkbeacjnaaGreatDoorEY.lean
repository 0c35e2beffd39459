/- errors.As at a target of the error's own kind, walked. -/
import Derived.Test.YtlmighkbeacjnaaGreatDoorLm13
import Derived.Test.YtlmighkbeacjnaaGreatDoorAS
import Derived.Test.YtlmighkbeacjnaaGreatDoorTy
set_option linter.unusedVariables false
set_option maxRecDepth 20000
open Go Go.Lg
namespace Go.Proofs.YtlmighkbeacjnaaGreatDoor
/-- A new block that nobody of ours knows of. -/
theorem push_ok {K : Ctx} {H : Heap} (hr : Rel K H) (o : Obj) : Rel (K.at_ (K.w.alloc o)) H ∧ Step K H (K.at_ (K.w.alloc o)) H := by
  have old : ∀ {b}, b < K.w.heap.size → (K.w.alloc o).heap[b]? = K.w.heap[b]? := fun h => push_old K.w o h
  have hE : Ext K (K.at_ (K.w.alloc o)) := ⟨Nat.le_refl _, fun _ _ => ⟨rfl, rfl, rfl⟩, fun _ h => h, fun b hb => old (hr.ros b hb)⟩
  refine ⟨⟨hr.lt, hr.nro, fun id b hb => ?_, hr.inj, fun b hb => ?_⟩, ⟨Nat.le_refl _, fun _ _ => ⟨rfl, rfl, rfl⟩, fun _ h => h, ?_, fun b hb _ => old hb, fun _ h => .inl h, fun _ h => .inl h, rfl, rfl, rfl⟩⟩
  · have hid : H id ≠ none := by rw [hb]; simp
    exact (hr.br id b hb).mono hE (hr.lt id hid) (old (hr.size_lt hid))
  · have := hr.ros b hb
    show b < (K.w.alloc o).heap.size
    rw [World.size_alloc]; omega
  · show K.w.heap.size ≤ (K.w.alloc o).heap.size
    rw [World.size_alloc]; omega
theorem set_one {K : Ctx} {H : Heap} (hr : Rel K H) {id : Nat} {x y : AV} {e : TypeId} (hH : H id = some (.cells [x] e)) {v : Value} (hv : VR K y v) (hs : scalA y = true) (h1 : v.oneCell' = true) :
    Rel (K.at_ (K.w.setCell ⟨K.base id, K.boff id + 0, none⟩ v)) (upd H id (some (.cells [y] e))) ∧ Step K H (K.at_ (K.w.setCell ⟨K.base id, K.boff id + 0, none⟩ v)) (upd H id (some (.cells [y] e))) := by
  obtain ⟨w1, hw, a, b⟩ := store_one (P := Tryz.prog) hr hH (off := 0) (by simp) hv hs
  obtain ⟨arr, fr, ha, ht, hz, hl, hcs⟩ := hr.br id _ hH
  have hlt : K.boff id + 0 < arr.size := Nat.lt_of_lt_of_le (Nat.lt_succ_self _) hl
  have hc : K.w.cell? ⟨K.base id, K.boff id + 0, none⟩ = some arr[K.boff id + 0] := by simp only [World.cell?, ha]; simp only [Option.isSome_none, Bool.false_eq_true, if_false]; exact Array.getElem?_eq_getElem hlt
  have hf : K.w.frozen? ⟨K.base id, K.boff id + 0, none⟩ = false := by simp only [World.frozen?, ha]; exact ht _ hlt
  rw [run_store _ _ _ _ _ h1, hc] at hw
  simp only [hf, Bool.false_eq_true, if_false, Result.ok.injEq, true_and] at hw
  subst hw
  exact ⟨a, b⟩
/-- The package variable's memory. -/
def gH [GO] : Heap := fun id => if id = 0 then some (.glob 0 (GO.o 0)) else none
theorem gH_zero [GO] : gH 0 = some (.glob 0 (GO.o 0)) := rfl
theorem gH_only [GO] {id : Nat} {b : Blk} (h : gH id = some b) : id = 0 ∧ b = .glob 0 (GO.o 0) := by
  unfold gH at h
  split at h
  · rename_i e; exact ⟨e, (Option.some.inj h).symm⟩
  · cases h
variable [GO]
/-- The package variable errors.errorType holds the handle of the type 'error'. -/
def GoOK : Prop := ∃ arr ty fr, GO.o 0 = .cells arr ty fr ∧ arr[0]? = some (.iface 158 (.agg #[.pointer (some ⟨1, 81, none⟩)]))
theorem ac38 (hgo : GoOK) {H : Heap} {n id : Nat} {v : Int} {x : AV} (h0 : H 0 = some (.glob 0 (GO.o 0))) (hid : H id = some (.cells [x] 34)) :
    AC Tryz.prog 38 [.iface 34 (.int .i64 v), .iface 84 (.ptr id 0)] H n fun r H' n' => r = .ret (.bool true) ∧ H' = upd H id (some (.cells [.int .i64 v] 34)) ∧ n' = n := by
  intro K vs hn hr hv
  obtain ⟨a, b, hvs⟩ : ∃ a b, vs = #[a, b] := by
    have := hv.1
    match vs, this with
    | ⟨[a, b]⟩, _ => exact ⟨a, b, rfl⟩
  subst hvs
  have va := hv.head
  have vb := hv.tail.head
  cases va with
  | @iface _ _ a va =>
    cases va with
    | int =>
      cases vb with
      | @iface _ _ b vb =>
        obtain ⟨rfl, hidn⟩ := vb.ptr_inv
        obtain ⟨g1, g2⟩ := hr.br 0 _ h0
        obtain ⟨garr, gty, gfr, e1, e2⟩ := hgo
        rw [g1, e1] at g2
        have hg : K.w.cell? ⟨0, 0, none⟩ = some (.iface 158 (.agg #[.pointer (some ⟨1, 81, none⟩)])) := by simp only [World.cell?, g2]; simpa using e2
        obtain ⟨arr, fr, ha, ht, hz, hl, hcs⟩ := hr.br id _ hid
        have hlt : K.boff id + 0 < arr.size := Nat.lt_of_lt_of_le (Nat.lt_succ_self _) hl
        have hc : K.w.cell? ⟨K.base id, K.boff id + 0, none⟩ = some arr[K.boff id + 0] := by simp only [World.cell?, ha]; simp only [Option.isSome_none, Bool.false_eq_true, if_false]; exact Array.getElem?_eq_getElem hlt
        have hf : K.w.frozen? ⟨K.base id, K.boff id + 0, none⟩ = false := by simp only [World.frozen?, ha]; exact ht _ hlt
        refine (as_hit v ⟨K.base id, K.boff id + 0, none⟩ _ K.w hg hc hf).mono ?_
        rintro ev w' ⟨rfl, rfl⟩
        obtain ⟨r1, s1⟩ := push_ok hr (.cells #[.pointer (some ⟨K.base id, K.boff id + 0, none⟩)] 84)
        obtain ⟨r2, s2⟩ := push_ok r1 (.cells #[.pointer (some ⟨1, 84, none⟩), .pointer (some ⟨K.w.heap.size, 0, none⟩), .int .u64 150] 111)
        obtain ⟨r3, s3⟩ := push_ok r2 (.cells #[.pointer (some ⟨1, 84, none⟩), .pointer (some ⟨K.w.heap.size, 0, none⟩), .int .u64 150] 111)
        obtain ⟨r4, s4⟩ := push_ok r3 (.cells #[.int .i64 v] 34)
        have s := ((s1.trans s2).trans s3).trans s4
        obtain ⟨hr1, hst1⟩ := set_one r4 hid (y := .int .i64 v) (v := .int .i64 v) (.int _ _) rfl rfl
        exact ⟨_, _, .ret (.bool true), rfl, hr1, s.trans hst1, .ret (.bool true), rfl, rfl, hn⟩
end Go.Proofs.YtlmighkbeacjnaaGreatDoor

