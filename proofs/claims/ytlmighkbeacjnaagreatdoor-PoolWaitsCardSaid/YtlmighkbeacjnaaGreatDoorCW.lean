/- Opens a call as an argument. -/
import Derived.Test.YtlmighkbeacjnaaGreatDoorPW
import Derived.Test.YtlmighkbeacjnaaGreatDoorYh
open Go Go.Lg
namespace Go.Proofs.YtlmighkbeacjnaaGreatDoor
open Go.ChangeShapes Go.WideShapes Go.ChangeAt Go.RowKit
set_option linter.unusedVariables false
set_option linter.unusedSimpArgs false
set_option maxRecDepth 100000
theorem dat_ca (x : Ca) : Dat (.agg x.cells) := by
  refine .agg fun y hy => ?_
  simp only [Ca.cells, List.mem_cons, List.not_mem_nil, or_false] at hy
  rcases hy with rfl | rfl | rfl
  · exact .int _ _
  · exact .int _ _
  · exact dat_bytes _
section
variable {H : Type} {enc : TypeId × Value → H} {W : World} {sp : Nat → Bool} {held : Bool}
theorem call_open {n : Nat} {cs : List Value} {x : DataW H × List MemPlace} (h : DataW.trod enc Tryz.prog W 0 sp held n 30 cs = some x) : ∃ u : Ca, VRs (Ctx.top W) u.cells cs := by
  have e30 : Tryz.prog.cellsOf 30 = 3 := by kernel_rfl
  have e5 : Tryz.prog.cellsOf 5 = 1 := by kernel_rfl
  have e3 : Tryz.prog.cellsOf 3 = 1 := by kernel_rfl
  have e28 : Tryz.prog.cellsOf 28 = 1 := by kernel_rfl
  cases n with
  | zero => simp [DataW.trod] at h
  | succ n =>
    simp only [DataW.trod, Tryz.underlying30] at h
    split at h <;> rename_i h0 <;> first | (cases h0; done) | (cases h; done) | skip
    rw [e30] at h0
    obtain ⟨xs, hm, _⟩ := Option.map_eq_some_iff.1 h
    have hz := mapM_some_length hm
    have g0 := mapM_some_get hm 0 _ rfl
    have g1 := mapM_some_get hm 1 _ rfl
    have g2 := mapM_some_get hm 2 _ rfl
    match cs, h0 with
    | [c0, c1, c2], _ =>
      rw [List.getElem?_eq_getElem (by rw [hz]; decide)] at g0 g1 g2
      simp only [e5] at g0
      simp only [e3] at g1
      simp only [e28] at g2
      obtain ⟨k, hk, _⟩ := byte_open g0
      obtain ⟨p, hp⟩ := int_open2 g1
      obtain ⟨bs, v, hv, hr⟩ := bytes_open g2
      cases hk; cases hp; cases hv
      exact ⟨⟨k, p, bs⟩, .cons (.int _ _) (.cons (.int _ _) (.cons hr (.nil _)))⟩
set_option maxRecDepth 100000 in
theorem call_arg {w : World} {r : Reach} {base : Nat} {v : Value} {d : DataW H} {p : List MemPlace} (hv : Value.okWide Tryz.prog w r base 30 v) (ht : DataW.Trod enc Tryz.prog W 0 sp held 30 v d p) : ∃ u : Ca, VR (Ctx.top W) (.agg u.cells) v := by
  simp only [Value.okWide, Tryz.underlying30] at hv
  obtain ⟨cs, rfl, hz, _⟩ := hv
  obtain ⟨n, hn⟩ := ht
  obtain ⟨u, hu⟩ := call_open hn
  exact ⟨u, VR.agg_.2 hu⟩
end
end Go.Proofs.YtlmighkbeacjnaaGreatDoor

