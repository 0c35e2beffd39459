/- Own memory that nobody writes any more, told by its content; answers that hold own memory. -/
import Derived.Test.YtlmighkbeacjnaaLgU
set_option linter.unusedVariables false
set_option linter.unusedSimpArgs false
set_option linter.unusedSectionVars false
namespace Go.Lg
open Go
/-- What own memory reads as once nobody writes it any more. -/
inductive Fz (H : Heap) : AV → AV → Prop
  | pur {x : AV} (h : Pur x) : Fz H x x
  | nothing : Fz H .empty (.view [])
  | slice {id off len : Nat} {cap : Option Nat} {sz : Nat} {cs : List AV} {e : TypeId} {ys : List AV} (hH : H id = some (.cells cs e)) (hl : off + len * sz ≤ cs.length) (hy : ys.length = len * sz)
      (h : ∀ (i : Nat) x y, cs[off + i]? = some x → ys[i]? = some y → Fz H x y) : Fz H (.slice id off len cap sz) (.view (chunk sz len ys))
  | ptr {id off : Nat} {cs : List AV} {e : TypeId} {ys : List AV} (hH : H id = some (.cells cs e)) (hy : ys.length = cs.length - off)
      (h : ∀ (i : Nat) x y, cs[off + i]? = some x → ys[i]? = some y → Fz H x y) : Fz H (.ptr id off) (.vptr ys)
  | agg {xs ys : List AV} (hy : ys.length = xs.length) (h : ∀ (i : Nat) x y, xs[i]? = some x → ys[i]? = some y → Fz H x y) : Fz H (.agg xs) (.agg ys)
  | tuple {xs ys : List AV} (hy : ys.length = xs.length) (h : ∀ (i : Nat) x y, xs[i]? = some x → ys[i]? = some y → Fz H x y) : Fz H (.tuple xs) (.tuple ys)
theorem Fz.of_eq {H : Heap} {x y : AV} (h : Pur x) (e : x = y) : Fz H x y := e ▸ .pur h
theorem Fz.mono {H H' : Heap} (hs : ∀ id b, H id = some b → H' id = some b) {x y : AV} (h : Fz H x y) : Fz H' x y := by
  induction h with
  | pur h => exact .pur h
  | nothing => exact .nothing
  | slice hH hl hy _ ih => exact .slice (hs _ _ hH) hl hy ih
  | ptr hH hy _ ih => exact .ptr (hs _ _ hH) hy ih
  | agg hy _ ih => exact .agg hy ih
  | tuple hy _ ih => exact .tuple hy ih
def Ctx.roAll (K : Ctx) (H : Heap) : Ctx := { K with ro := fun b => K.ro b ∨ OB K H b }
theorem roAll_ok {K : Ctx} {H : Heap} (hr : Rel K H) : Rel (K.roAll H) noHeap ∧ Step K H (K.roAll H) noHeap := by
  refine ⟨⟨fun _ h => absurd rfl h, fun _ h => absurd rfl h, fun _ _ h => by simp [noHeap] at h, fun _ _ h => absurd rfl h, ?_⟩, ⟨Nat.le_refl _, fun _ _ => ⟨rfl, rfl, rfl⟩, fun _ h => .inl h, Nat.le_refl _, fun _ _ _ => rfl, ?_, ?_, rfl, rfl, rfl⟩⟩
  · rintro b (h | ⟨id, h1, h2⟩)
    · exact hr.ros b h
    · have := hr.size_lt h1; rw [h2] at this; exact this
  · rintro b ⟨id, h, _⟩; exact absurd rfl h
  · rintro b (h | h)
    · exact .inl h
    · exact .inr (.inl h)
theorem fz_list {K : Ctx} {K' : Ctx} {cs ys : List AV} {vs : List Value} (hy : ys.length ≤ cs.length) (hv : VRs K cs vs) (h : ∀ (i : Nat) x y, cs[i]? = some x → ys[i]? = some y → ∀ v, VR K x v → VR K' y v) : VRs K' ys (vs.take ys.length) := by
  refine ⟨by rw [List.length_take, hv.1]; omega, fun i y v h1 h2 => ?_⟩
  have hi : i < ys.length := (List.getElem?_eq_some_iff.1 h1).1
  rw [List.getElem?_take, if_pos hi] at h2
  have hx : cs[i]? = some (cs[i]'(by omega)) := List.getElem?_eq_getElem _
  exact h i _ y hx h1 v (hv.2 i _ v hx h2)
theorem fz_VR {K : Ctx} {H : Heap} (hr : Rel K H) {x y : AV} (hf : Fz H x y) : ∀ v, VR K x v → VR (K.roAll H) y v := by
  induction hf with
  | pur h => exact fun v hv => hv.pur (K' := K.roAll H) (fun b (h : K.ro b) => Or.inl h) (fun _ _ => rfl) h
  | nothing => exact fun v hv => empty_view (by cases hv; exact .empty _)
  | @slice id off len cap sz cs e ys hH hl hy h ih =>
    intro v hv
    cases hv with
    | @slice _ _ _ _ _ o c hid ho hc hlc hcap =>
      by_cases h0 : 0 < c
      · obtain ⟨vs, hvs, hcell⟩ := own_cells (hr.br id _ hH) off
        have hlist := fz_list (K' := K.roAll H) (cs := cs.drop off) (ys := ys) (by rw [hy, List.length_drop]; omega) hvs (fun i x y h1 h2 v hv => ih i x y (by rw [List.getElem?_drop] at h1; exact h1) h2 v hv)
        rw [ho h0]
        exact view_of_cells hlist (fun j u hu => by
          rw [List.getElem?_take] at hu
          split at hu
          · exact hcell j u hu
          · cases hu) (.inr ⟨id, by rw [hH]; simp, rfl⟩) (by rw [hy]; exact Nat.le_refl _) hlc
      · have hl0 : len = 0 := by omega
        subst hl0
        have : chunk sz 0 ys = [] := rfl
        rw [this]
        exact view_mk (esz := 0) (Nat.zero_le _) (fun r hr => by cases hr) (fun h => absurd h (Nat.lt_irrefl 0))
  | @ptr id off cs e ys hH hy h ih =>
    intro v hv
    obtain ⟨rfl, hid⟩ := hv.ptr_inv
    obtain ⟨vs, hvs, hcell⟩ := own_cells (hr.br id _ hH) off
    have hlist := fz_list (K' := K.roAll H) (cs := cs.drop off) (ys := ys) (by rw [hy, List.length_drop]; exact Nat.le_refl _) hvs (fun i x y h1 h2 v hv => ih i x y (by rw [List.getElem?_drop] at h1; exact h1) h2 v hv)
    exact vptr_mk (.inr ⟨id, by rw [hH]; simp, rfl⟩) hlist (fun j u hu => by
      rw [List.getElem?_take] at hu
      split at hu
      · exact hcell j u hu
      · cases hu)
  | @agg xs ys hy h ih =>
    intro v hv
    obtain ⟨vs, rfl, hvs⟩ := hv.agg_inv
    have := fz_list (K' := K.roAll H) (by omega) hvs (fun i x y h1 h2 v hv => ih i x y h1 h2 v hv)
    rw [List.take_of_length_le (by rw [hvs.1]; omega)] at this
    exact VR.agg_.2 this
  | @tuple xs ys hy h ih =>
    intro v hv
    obtain ⟨vs, rfl, hvs⟩ := hv.tuple_inv
    have := fz_list (K' := K.roAll H) (by omega) hvs (fun i x y h1 h2 v hv => ih i x y h1 h2 v hv)
    rw [List.take_of_length_le (by rw [hvs.1]; omega)] at this
    exact VR.tuple_.2 this
/-- A list that tells of no own memory stays. -/
theorem fz_slice_pur {H : Heap} {id off len : Nat} {cap : Option Nat} {sz : Nat} {cs : List AV} {e : TypeId} (hH : H id = some (.cells cs e)) (hl : off + len * sz ≤ cs.length) (hp : ∀ x, x ∈ cs → Pur x) : Fz H (.slice id off len cap sz) (.view (chunk sz len ((cs.drop off).take (len * sz)))) :=
  .slice hH hl (by rw [List.length_take, List.length_drop]; omega) (fun i x y h1 h2 => by
    rw [List.getElem?_take] at h2
    split at h2
    · rw [List.getElem?_drop, h1] at h2; cases h2; exact .pur (hp x (List.mem_of_getElem? h1))
    · cases h2)
section
variable {P : Program}
theorem ac_fz {f : FuncId} {args : List AV} {H : Heap} {n : Nat} {X : AV → Prop} (h : AC P f args H n fun r H' _ => ∃ x y, r = .ret x ∧ Fz H' x y ∧ Pur y ∧ X y) : AC P f args H n fun r _ _ => ∃ x, r = .ret x ∧ Pur x ∧ X x := by
  intro K vs hn hr hv
  refine (h K vs hn hr hv).mono ?_
  rintro e w' ⟨K', H', r, hw, hr', hst, hrr, x, y, rfl, hf, hp, hx⟩
  cases hrr with
  | ret hv =>
    obtain ⟨g1, g2⟩ := roAll_ok hr'
    exact ⟨K'.roAll H', noHeap, .ret y, hw, g1, hst.trans g2, .ret (fz_VR hr' hf _ hv), y, rfl, hp, hx⟩
theorem pf_of_fz {f : FuncId} {args : List AV} {X : AV → Prop} (hc : Callable P f) (ha : ∀ x, x ∈ args → Pur x) (h0 : AC P f args (hl []) 0 fun r H' _ => ∃ x y, r = .ret x ∧ Fz H' x y ∧ Pur y ∧ X y) : PF P f args X :=
  pf_of_ac0 hc ha (ac_fz h0)
/-- The end of a function whose answer may hold own memory. -/
def DoneF (P : Program) (fn : Func) (X : AV → Prop) : AEx → St → Prop
  | .normal, σ | .ret, σ => σ.df = [] ∧ ∃ x y, ResV P fn.ntmps fn σ x ∧ Fz σ.h x y ∧ Pur y ∧ X y
  | _, _ => False
theorem pf_of_wf0 {f : FuncId} {fn : Func} {c : Code} {args : List AV} {X : AV → Prop} (hf : P.funcs[f]? = some fn) (hb : fn.body = some c) (hn : (fn.name == "runtime.NumGoroutine") = false) (hN : args.length ≤ fn.ntmps) (ha : ∀ x, x ∈ args → Pur x)
    (h : W P Plain fn.ntmps 0 c (DoneF P fn X) ⟨args0 args, hl [], 0, []⟩) : PF P f args X := by
  refine pf_of_fz ⟨fn, hf, hn, by rw [hb]; rfl⟩ ha (ac_of_w hf hb hN (h.mono fun e σ hq => ?_))
  cases e with
  | normal => obtain ⟨h1, x, y, h2, h3, h4, h5⟩ := hq; exact ⟨h1, x, h2, x, y, rfl, h3, h4, h5⟩
  | ret => obtain ⟨h1, x, y, h2, h3, h4, h5⟩ := hq; exact ⟨h1, x, h2, x, y, rfl, h3, h4, h5⟩
  | _ => exact hq.elim
theorem donef_ret {T : TT} (hT : TOK P T) {fn : Func} {X : AV → Prop} {rs : Array ResultVar} {xs : List AV} {y : AV} {tm : Nat → AV} {hp : Heap} {n : Nat} (hr : fn.results = rs) (h : resA T ⟨tm, hp, n, []⟩ rs.toList = some xs) (hf : Fz hp (tup xs) y) (hpu : Pur y) (hx : X y) : DoneF P fn X .ret ⟨tm, hp, n, []⟩ :=
  ⟨rfl, _, y, by have := resv_of (fn := fn) (N := fn.ntmps) (σ := ⟨tm, hp, n, []⟩) hT (by rw [hr]; exact h); exact this, hf, hpu, hx⟩
end
end Go.Lg
