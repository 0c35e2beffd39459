/- Opens a unit as an argument. -/
import Derived.Test.YtlmighkbeacjnaaGreatDoorCU
open Go Go.Lg
namespace Go.Proofs.YtlmighkbeacjnaaGreatDoor
open Go.ChangeShapes Go.WideShapes Go.ChangeAt Go.RowKit
set_option linter.unusedVariables false
set_option linter.unusedSimpArgs false
set_option maxRecDepth 100000
section
variable {H : Type} {enc : TypeId × Value → H} {W : World} {sp : Nat → Bool} {held : Bool}
theorem unit_open {n : Nat} {cs : List Value} {x : DataW H × List MemPlace} (h : DataW.trod enc Tryz.prog W 0 sp held n 58 cs = some x) : ∃ u : Un, VRs (Ctx.top W) u.cells cs := by
  have e42 : Tryz.prog.cellsOf 58 = 4 := by kernel_rfl
  have e5 : Tryz.prog.cellsOf 5 = 1 := by kernel_rfl
  have e3 : Tryz.prog.cellsOf 3 = 1 := by kernel_rfl
  have e34 : Tryz.prog.cellsOf 28 = 1 := by kernel_rfl
  cases n with
  | zero => simp [DataW.trod] at h
  | succ n =>
    simp only [DataW.trod, Tryz.underlying58] at h
    split at h <;> rename_i h0 <;> first | (cases h0; done) | (cases h; done) | skip
    rw [e42] at h0
    obtain ⟨xs, hm, _⟩ := Option.map_eq_some_iff.1 h
    have hz := mapM_some_length hm
    have g0 := mapM_some_get hm 0 _ rfl
    have g1 := mapM_some_get hm 1 _ rfl
    have g2 := mapM_some_get hm 2 _ rfl
    have g3 := mapM_some_get hm 3 _ rfl
    match cs, h0 with
    | [c0, c1, c2, c3], _ =>
      rw [List.getElem?_eq_getElem (by rw [hz]; decide)] at g0 g1 g2 g3
      simp only [e5] at g0
      simp only [e3] at g1 g2
      simp only [e34] at g3
      obtain ⟨k, hk, _⟩ := byte_open g0
      obtain ⟨p, hp⟩ := int_open2 g1
      obtain ⟨fr, hfr⟩ := int_open2 g2
      obtain ⟨bs, v, hv, hr⟩ := bytes_open g3
      cases hk; cases hp; cases hfr; cases hv
      exact ⟨⟨k, p, fr, bs⟩, .cons (.int _ _) (.cons (.int _ _) (.cons (.int _ _) (.cons hr (.nil _))))⟩
end
end Go.Proofs.YtlmighkbeacjnaaGreatDoor

