/- What the laws' arguments read as. -/
import Derived.Test.YtlmighkbeacjnaaGreatDoorLm3
import Derived.Test.YtlmighkbeacjnaaGreatDoorYa
import Derived.Test.YtlmighkbeacjnaaGreatDoorRows
import Derived.ProofKit
open Go Go.Lg
namespace Go.Proofs.YtlmighkbeacjnaaGreatDoor
open Go.ChangeShapes Go.WideShapes Go.ChangeAt Go.RowKit
set_option maxRecDepth 100000
theorem own : ownKnob Tryz.prog.godebug = none := by kernel_rfl
theorem laidOut : laidOutB Tryz.prog = true := by kernel_rfl
set_option maxRecDepth 100000 in
theorem cell_int {w : World} {r : Reach} {base : Nat} {v : Value} (h : Cell.okWide Tryz.prog w r base 3 v) : ∃ n, v = .int .i64 n := by
  simp only [Cell.okWide, Tryz.underlying3] at h
  cases v <;> simp_all [Cell.ok]
set_option maxRecDepth 100000 in
theorem cfg_open {w : World} {r : Reach} {base : Nat} {v : Value} (h : Value.okWide Tryz.prog w r base 23 v) : ∃ c : Cf, ∀ K, VR K (.agg c.cells) v := by
  simp only [Value.okWide, Tryz.underlying23] at h
  obtain ⟨cs, rfl, hz, ts, hts, _, hcell⟩ := h
  have e : Tryz.prog.cellTypes Tryz.prog.depth 23 = some [3, 3, 3, 3, 3, 3, 3, 3, 3] := by kernel_rfl
  have e2 : Tryz.prog.cellsOf 23 = 9 := by kernel_rfl
  rw [e] at hts
  cases hts
  rw [e2] at hz
  have key : ∀ i, i < 9 → ∃ n, cs[i]? = some (.int .i64 n) := fun i hi => by
    have h1 : cs[i]? = some cs[i] := Array.getElem?_eq_getElem (by omega)
    obtain ⟨u, hu, hc⟩ := hcell i cs[i] h1
    have hu3 : u = 3 := by
      have hm : i % 9 < 9 := Nat.mod_lt _ (by decide)
      have hall : ∀ j, j < 9 → ([3, 3, 3, 3, 3, 3, 3, 3, 3] : List TypeId)[j]? = some 3 := by decide
      have := hall (i % 9) hm
      exact Option.some.inj (hu.symm.trans this)
    subst hu3
    obtain ⟨n, hn⟩ := cell_int hc
    exact ⟨n, by rw [h1, hn]⟩
  obtain ⟨n0, h0⟩ := key 0 (by decide); obtain ⟨n1, h1⟩ := key 1 (by decide); obtain ⟨n2, h2⟩ := key 2 (by decide)
  obtain ⟨n3, h3⟩ := key 3 (by decide); obtain ⟨n4, h4⟩ := key 4 (by decide); obtain ⟨n5, h5⟩ := key 5 (by decide)
  obtain ⟨n6, h6⟩ := key 6 (by decide); obtain ⟨n7, h7⟩ := key 7 (by decide); obtain ⟨n8, h8⟩ := key 8 (by decide)
  refine ⟨⟨n0, n1, n2, n3, n4, n5, n6, n7, n8⟩, fun K => .agg (by simpa [Cf.cells] using hz) fun i x hx => ?_⟩
  rw [Array.getD_eq_getD_getElem?]
  match i, hx with
  | 0, hx => cases hx; rw [h0]; exact .int _ _
  | 1, hx => cases hx; rw [h1]; exact .int _ _
  | 2, hx => cases hx; rw [h2]; exact .int _ _
  | 3, hx => cases hx; rw [h3]; exact .int _ _
  | 4, hx => cases hx; rw [h4]; exact .int _ _
  | 5, hx => cases hx; rw [h5]; exact .int _ _
  | 6, hx => cases hx; rw [h6]; exact .int _ _
  | 7, hx => cases hx; rw [h7]; exact .int _ _
  | 8, hx => cases hx; rw [h8]; exact .int _ _
  | i + 9, hx => cases hx
set_option maxRecDepth 100000 in
theorem int_open {w : World} {r : Reach} {base : Nat} {v : Value} (h : Value.okWide Tryz.prog w r base 3 v) : ∃ n, v = .int .i64 n := by
  simp only [Value.okWide, Tryz.underlying3] at h
  exact cell_int h
end Go.Proofs.YtlmighkbeacjnaaGreatDoor

