/- A function that only computes, called with own memory as arguments: it reads it frozen for the time of the call. -/
import Derived.Test.YtlmighkbeacjnaaLgY
set_option linter.unusedVariables false
set_option linter.unusedSimpArgs false
set_option linter.unusedSectionVars false
namespace Go.Lg
open Go
theorem ac_look {P : Program} {f : FuncId} {args ys : List AV} {X : AV → Prop} (h : PF P f ys X) (H : Heap) (n : Nat) (hy : ys.length = args.length) (hF : ∀ (i : Nat) x y, args[i]? = some x → ys[i]? = some y → Fz H x y)
    (hX : ∀ x, X x → ∀ K K' v, VR K x v → VR K' x v) : AC P f args H n fun r H' n' => H' = H ∧ n' = n ∧ ∃ x, r = .ret x ∧ Pur x ∧ X x := by
  intro K vs hn hr hv
  obtain ⟨hR, hS⟩ := roAll_ok hr
  have hv' : VRs (K.roAll H) ys vs.toList := by
    have := fz_list (K' := K.roAll H) (cs := args) (ys := ys) (by omega) hv (fun i x y h1 h2 v hv => fz_VR hr (hF i x y h1 h2) v hv)
    rwa [List.take_of_length_le (by rw [hv.1, hy]; exact Nat.le_refl _)] at this
  refine ((h.run n) (K.roAll H) vs hn hR hv').mono ?_
  rintro e w' ⟨K', H1, r, rfl, hr', hst, hrr, x, rfl, hp, hx⟩
  let K2 : Ctx := { base := K.base, boff := K.boff, bsz := K.bsz, next := K.next, ro := K.ro, w := K'.w }
  have hsame : ∀ b, b < K.w.heap.size → K'.w.heap[b]? = K.w.heap[b]? := fun b hb => hst.same b hb (fun ⟨id, h1, _⟩ => h1 rfl)
  have hE : Ext K K2 := ⟨Nat.le_refl _, fun _ _ => ⟨rfl, rfl, rfl⟩, fun _ h => h, fun b hb => hsame b (hr.ros b hb)⟩
  refine ⟨K2, H, .ret x, rfl, ⟨hr.lt, hr.nro, fun id b hb => ?_, hr.inj, fun b hb => Nat.lt_of_lt_of_le (hr.ros b hb) hst.size⟩, ⟨Nat.le_refl _, fun _ _ => ⟨rfl, rfl, rfl⟩, fun _ h => h, hst.size, fun b hb _ => hsame b hb, fun _ h => .inl h, fun _ h => .inl h, hst.os, hst.tape, hst.output⟩, ?_, rfl, hn, x, rfl, hp, hx⟩
  · have hid : H id ≠ none := by rw [hb]; simp
    exact (hr.br id b hb).mono hE (hr.lt id hid) (hsame _ (hr.size_lt hid))
  · cases hrr with
    | ret hv => exact .ret (hX x hx _ _ _ hv)
end Go.Lg
