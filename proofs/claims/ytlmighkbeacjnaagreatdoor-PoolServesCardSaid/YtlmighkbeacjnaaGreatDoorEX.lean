/- What is known of errors.As: at a target of the error's own kind. -/
import Derived.Test.YtlmighkbeacjnaaGreatDoorEV
import Derived.Test.YtlmighkbeacjnaaGreatDoorAS
import Derived.Test.YtlmighkbeacjnaaGreatDoorLm16
set_option linter.unusedVariables false
set_option maxRecDepth 20000
open Go Go.Lg
namespace Go.Proofs.YtlmighkbeacjnaaGreatDoor
/-- A new block that nobody of ours knows of. -/
theorem push_ok {K : Ctx} {H : Heap} (hr : Rel K H) (o : Obj) : Rel (K.at_ (K.w.alloc o)) H ∧ Step K H (K.at_ (K.w.alloc o)) H := by
  have old : ∀ {b}, b < K.w.heap.size → (K.w.alloc o).heap[b]? = K.w.heap[b]? := fun h => push_old K.w o h
  have hE : Ext K (K.at_ (K.w.alloc o)) := ⟨Nat.le_refl _, fun _ _ => ⟨rfl, rfl, rfl⟩, fun _ h => h, fun b hb => old (hr.ros b hb)⟩
  refine ⟨⟨hr.lt, hr.nro, fun id b hb => ?_, hr.inj, fun b hb => ?_⟩, ⟨Nat.le_refl _, fun _ _ => ⟨rfl, rfl, rfl⟩, fun _ h => h, ?_, fun b hb _ => old hb, fun _ h => .inl h, fun _ h => .inl h, rfl, rfl, rfl⟩⟩
  · have hid : H id ≠ none := by rw [hb]; simp
    exact (hr.br id b hb).mono hE (hr.lt id hid) (old (hr.size_lt hid))
  · have := hr.ros b hb
    show b < (K.w.alloc o).heap.size
    rw [World.size_alloc]; omega
  · show K.w.heap.size ≤ (K.w.alloc o).heap.size
    rw [World.size_alloc]; omega
theorem set_one {K : Ctx} {H : Heap} (hr : Rel K H) {id : Nat} {x y : AV} {e : TypeId} (hH : H id = some (.cells [x] e)) {v : Value} (hv : VR K y v) (hs : scalA y = true) (h1 : v.oneCell' = true) :
    Rel (K.at_ (K.w.setCell ⟨K.base id, K.boff id + 0, none⟩ v)) (upd H id (some (.cells [y] e))) ∧ Step K H (K.at_ (K.w.setCell ⟨K.base id, K.boff id + 0, none⟩ v)) (upd H id (some (.cells [y] e))) := by
  obtain ⟨w1, hw, a, b⟩ := store_one (P := Tryz.prog) hr hH (off := 0) (by simp) hv hs
  obtain ⟨arr, fr, ha, ht, hz, hl, hcs⟩ := hr.br id _ hH
  have hlt : K.boff id + 0 < arr.size := Nat.lt_of_lt_of_le (Nat.lt_succ_self _) hl
  have hc : K.w.cell? ⟨K.base id, K.boff id + 0, none⟩ = some arr[K.boff id + 0] := by simp only [World.cell?, ha]; simp only [Option.isSome_none, Bool.false_eq_true, if_false]; exact Array.getElem?_eq_getElem hlt
  have hf : K.w.frozen? ⟨K.base id, K.boff id + 0, none⟩ = false := by simp only [World.frozen?, ha]; exact ht _ hlt
  rw [run_store _ _ _ _ _ h1, hc] at hw
  simp only [hf, Bool.false_eq_true, if_false, Result.ok.injEq, true_and] at hw
  subst hw
  exact ⟨a, b⟩
variable [GO]
/-- The package variable errors.errorType holds the handle of the type 'error'. -/
def GoOK : Prop := ∃ arr ty fr, GO.o 0 = .cells arr ty fr ∧ arr[0]? = some (.iface 158 (.agg #[.pointer (some ⟨1, 81, none⟩)]))
omit [GO] in
theorem callable38 : Callable Tryz.prog 38 := ⟨_, Tryz.func38, rfl, rfl⟩
theorem ac38 (hgo : GoOK) {H : Heap} {n id : Nat} {v : Int} {x : AV} (h0 : H 0 = some (.glob 0 (GO.o 0))) (hid : H id = some (.cells [x] 34)) :
    AC Tryz.prog 38 [.iface 34 (.int .i64 v), .iface 84 (.ptr id 0)] H n fun r H' n' => r = .ret (.bool true) ∧ H' = upd H id (some (.cells [.int .i64 v] 34)) ∧ n' = n := by
  intro K vs hn hr hv
  obtain ⟨a, b, hvs⟩ : ∃ a b, vs = #[a, b] := by
    have := hv.1
    match vs, this with
    | ⟨[a, b]⟩, _ => exact ⟨a, b, rfl⟩
  subst hvs
  have va := hv.head
  have vb := hv.tail.head
  cases va with
  | @iface _ _ a va =>
    cases va with
    | int =>
      cases vb with
      | @iface _ _ b vb =>
        obtain ⟨rfl, hidn⟩ := vb.ptr_inv
        obtain ⟨g1, g2⟩ := hr.br 0 _ h0
        obtain ⟨garr, gty, gfr, e1, e2⟩ := hgo
        rw [g1, e1] at g2
        have hg : K.w.cell? ⟨0, 0, none⟩ = some (.iface 158 (.agg #[.pointer (some ⟨1, 81, none⟩)])) := by simp only [World.cell?, g2]; simpa using e2
        obtain ⟨arr, fr, ha, ht, hz, hl, hcs⟩ := hr.br id _ hid
        have hlt : K.boff id + 0 < arr.size := Nat.lt_of_lt_of_le (Nat.lt_succ_self _) hl
        have hc : K.w.cell? ⟨K.base id, K.boff id + 0, none⟩ = some arr[K.boff id + 0] := by simp only [World.cell?, ha]; simp only [Option.isSome_none, Bool.false_eq_true, if_false]; exact Array.getElem?_eq_getElem hlt
        have hf : K.w.frozen? ⟨K.base id, K.boff id + 0, none⟩ = false := by simp only [World.frozen?, ha]; exact ht _ hlt
        refine (as_hit v ⟨K.base id, K.boff id + 0, none⟩ _ K.w hg hc hf).mono ?_
        rintro ev w' ⟨rfl, rfl⟩
        obtain ⟨r1, s1⟩ := push_ok hr (.cells #[.pointer (some ⟨K.base id, K.boff id + 0, none⟩)] 84)
        obtain ⟨r2, s2⟩ := push_ok r1 (.cells #[.pointer (some ⟨1, 84, none⟩), .pointer (some ⟨K.w.heap.size, 0, none⟩), .int .u64 150] 111)
        obtain ⟨r3, s3⟩ := push_ok r2 (.cells #[.pointer (some ⟨1, 84, none⟩), .pointer (some ⟨K.w.heap.size, 0, none⟩), .int .u64 150] 111)
        obtain ⟨r4, s4⟩ := push_ok r3 (.cells #[.int .i64 v] 34)
        have s := ((s1.trans s2).trans s3).trans s4
        obtain ⟨hr1, hst1⟩ := set_one r4 hid (y := .int .i64 v) (v := .int .i64 v) (.int _ _) rfl rfl
        exact ⟨_, _, .ret (.bool true), rfl, hr1, s.trans hst1, .ret (.bool true), rfl, rfl, hn⟩
noncomputable def exA (g : FuncId) (args : List AV) (h : Trie EB) (n : Nat) : Option (List CO) :=
  bif Nat.beq g 38 then match args with
    | [.iface t (.int .i64 v), .iface t' (.ptr id off)] => bif Nat.beq t 34 && (Nat.beq t' 84 && Nat.beq off 0) then match h.get 0 with
      | some (.glob b) => bif Nat.beq b 0 then match h.get id with
        | some (.cells [_] e) => bif Nat.beq e 34 then some [⟨.ret (.bool true), h.put id (some (.cells [.int .i64 v] 34)), n⟩] else none
        | _ => none
        else none
      | _ => none
      else none
    | _ => none
  else none
theorem exA_ok (hgo : GoOK) : ExOK exA := by
  intro g args h n L e
  unfold exA at e
  cases hg : Nat.beq g 38 <;> rw [hg] at e
  · cases e
  · obtain rfl := Nat.eq_of_beq_eq_true hg
    simp only [cond_true] at e
    split at e
    · rename_i t v t' id off
      cases hc : (Nat.beq t 34 && (Nat.beq t' 84 && Nat.beq off 0)) <;> rw [hc] at e
      · cases e
      · obtain ⟨c1, c2⟩ := Bool.and_eq_true_iff.1 hc
        obtain ⟨c2, c3⟩ := Bool.and_eq_true_iff.1 c2
        obtain rfl := Nat.eq_of_beq_eq_true c1
        obtain rfl := Nat.eq_of_beq_eq_true c2
        obtain rfl := Nat.eq_of_beq_eq_true c3
        simp only [cond_true] at e
        split at e
        · rename_i b hb
          cases hc : Nat.beq b 0 <;> rw [hc] at e
          · cases e
          · obtain rfl := Nat.eq_of_beq_eq_true hc
            simp only [cond_true] at e
            split at e
            · rename_i x ty hx
              cases hc : Nat.beq ty 34 <;> rw [hc] at e
              · cases e
              · obtain rfl := Nat.eq_of_beq_eq_true hc
                simp only [cond_true, Option.some.injEq] at e
                subst e
                refine ⟨callable38, (ac38 hgo (by simp only [hF, hb, EB.toBlk]) (hF_cells hx)).mono ?_⟩
                rintro r H' n' ⟨rfl, rfl, rfl⟩
                exact ⟨_, List.mem_singleton.2 rfl, rfl, by simp only [hF_put, EB.toBlk], rfl⟩
            · cases e
        · cases e
    · cases e
/-- The evaluator, with errors.As and known answers. -/
noncomputable def envG (K : List (FuncId × List AV × AV)) (fz fa : FuncId → Bool) : Env := envE (smN clE) 100000 fz fa (exG K exA)
theorem envG_ok (hgo : GoOK) {K : List (FuncId × List AV × AV)} (h : KG Tryz.prog K) (fz fa : FuncId → Bool) : EnvOK Tryz.prog (envG K fz fa) := envE_ok (smN_ok clE_ok) 100000 fz fa (exG_ok h (exA_ok hgo))
end Go.Proofs.YtlmighkbeacjnaaGreatDoor

