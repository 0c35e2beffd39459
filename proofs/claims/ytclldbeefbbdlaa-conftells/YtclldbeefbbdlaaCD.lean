/- ConfTells: for every configuration the law returns true, and what it was handed reads as before. No condition. -/
import Derived.Test.YtclldbeefbbdlaaLgQ
import Derived.Test.YtclldbeefbbdlaaCC
import Derived.Test.YtclldbeefbbdlaaRows
import Derived.ProofKit
open Go Go.Lg
namespace Go.Proofs.Ytclldbeefbbdlaa
open Go.ChangeShapes Go.WideShapes Go.ChangeAt Go.RowKit
set_option maxRecDepth 100000
theorem own : ownKnob Try.prog.godebug = none := by kernel_rfl
theorem laidOut : laidOutB Try.prog = true := by kernel_rfl
set_option maxRecDepth 100000 in
theorem cell_int {w : World} {r : Reach} {base : Nat} {v : Value} (h : Cell.okWide Try.prog w r base 3 v) : ∃ n, v = .int .i64 n := by
  simp only [Cell.okWide, Try.underlying3] at h
  cases v <;> simp_all [Cell.ok]
set_option maxRecDepth 100000 in
theorem cfg_open {w : World} {r : Reach} {base : Nat} {v : Value} (h : Value.okWide Try.prog w r base 23 v) : ∃ c : Cf, ∀ K, VR K (.agg c.cells) v := by
  simp only [Value.okWide, Try.underlying23] at h
  obtain ⟨cs, rfl, hz, ts, hts, _, hcell⟩ := h
  have e : Try.prog.cellTypes Try.prog.depth 23 = some [3, 3, 3, 3, 3, 3, 3, 3, 3] := by kernel_rfl
  have e2 : Try.prog.cellsOf 23 = 9 := by kernel_rfl
  rw [e] at hts
  cases hts
  rw [e2] at hz
  have key : ∀ i, i < 9 → ∃ n, cs[i]? = some (.int .i64 n) := fun i hi => by
    have h1 : cs[i]? = some cs[i] := Array.getElem?_eq_getElem (by omega)
    obtain ⟨u, hu, hc⟩ := hcell i cs[i] h1
    have hu3 : u = 3 := by
      have hm : i % 9 < 9 := Nat.mod_lt _ (by decide)
      have hall : ∀ j, j < 9 → ([3, 3, 3, 3, 3, 3, 3, 3, 3] : List TypeId)[j]? = some 3 := by decide
      have := hall (i % 9) hm
      exact Option.some.inj (hu.symm.trans this)
    subst hu3
    obtain ⟨n, hn⟩ := cell_int hc
    exact ⟨n, by rw [h1, hn]⟩
  obtain ⟨n0, h0⟩ := key 0 (by decide); obtain ⟨n1, h1⟩ := key 1 (by decide); obtain ⟨n2, h2⟩ := key 2 (by decide)
  obtain ⟨n3, h3⟩ := key 3 (by decide); obtain ⟨n4, h4⟩ := key 4 (by decide); obtain ⟨n5, h5⟩ := key 5 (by decide)
  obtain ⟨n6, h6⟩ := key 6 (by decide); obtain ⟨n7, h7⟩ := key 7 (by decide); obtain ⟨n8, h8⟩ := key 8 (by decide)
  refine ⟨⟨n0, n1, n2, n3, n4, n5, n6, n7, n8⟩, fun K => .agg (by simpa [Cf.cells] using hz) fun i x hx => ?_⟩
  rw [Array.getD_eq_getD_getElem?]
  match i, hx with
  | 0, hx => cases hx; rw [h0]; exact .int _ _
  | 1, hx => cases hx; rw [h1]; exact .int _ _
  | 2, hx => cases hx; rw [h2]; exact .int _ _
  | 3, hx => cases hx; rw [h3]; exact .int _ _
  | 4, hx => cases hx; rw [h4]; exact .int _ _
  | 5, hx => cases hx; rw [h5]; exact .int _ _
  | 6, hx => cases hx; rw [h6]; exact .int _ _
  | 7, hx => cases hx; rw [h7]; exact .int _ _
  | 8, hx => cases hx; rw [h8]; exact .int _ _
  | i + 9, hx => cases hx
set_option maxRecDepth 100000 in
theorem confTells_lifted (os : Os) (started : os.Started) (H : Type) (enc : TypeId × Value → H) :
    ReturnsInHanded {} Try.checked os 6 .any (Rows.confTellsSpec.pre6 enc Try.prog Try.f6 Rows.confTellsRow.domain false) (Rows.confTellsSpec.post enc Try.prog Try.f6 false true false false) := by
  refine returnsInHanded_of_change (C := Try.checked) own started (by kernel_rfl) Try.func6
    (ChangeSpec.witness6 (enc := enc) (C := Try.checked) false ⟨#[], #[.agg #[.int .i64 0, .int .i64 0, .int .i64 0, .int .i64 0, .int .i64 0, .int .i64 0, .int .i64 0, .int .i64 0, .int .i64 0]], []⟩ 8 (by kernel_rfl) (by kernel_rfl) (by kernel_rfl) (by kernel_rfl)) ?_
  intro W base args ds gs before hval0 hW hcnd _
  have hval : ∀ (j : Nat) t v, Try.f6.params[j]? = some t → args[j]? = some v → Value.okWide Try.prog W .any base t v := hval0
  have hW' := hW
  obtain ⟨p, q, hA0, hV, rfl, hfz, hnd⟩ := hW
  have hA : DataW.TrodAll enc Try.prog W 0 (fun _ => true) true Try.f6.params.toList args.toList ds p := hA0
  rw [Try.params6] at hA hval
  obtain ⟨v0, vs0, d0, ds0, p0, q0, hargs, rfl, rfl, h0, r0⟩ := trodAll_cons hA
  obtain ⟨rfl, rfl, rfl⟩ := trodAll_nil r0
  obtain rfl : args = #[v0] := by cases args; simp_all
  obtain ⟨rfl, rfl⟩ := trodVars_none hV
  obtain ⟨c, hc⟩ := cfg_open (hval 0 23 v0 rfl rfl)
  have k0 := h0
  have lt0 : ∀ x ∈ p0, x.block < W.heap.size := by obtain ⟨m, hm⟩ := k0; exact DataW.trod_lt m _ _ _ hm
  clear hA0 hval0
  refine (calls_of_pf (pf6 c) W #[v0] (VRs.cons (hc _) (VRs.nil _))).mono fun e W' ⟨he, bel⟩ => ?_
  subst he
  exact ⟨_, rfl, _, _, _, [], _, [], hW', trodAll_mk1 (shut_bool Try.underlying4 _), trodAll_mk1 (Below.trod laidOut (by kernel_rfl) (of_decide_eq_true (by kernel_rfl)) k0 bel lt0), rfl, bel.frame _, fun h => by cases h⟩
theorem confTells_proved : Rows.ConfTellsSaid :=
  OpenClaim.holds_of_wide 6 Try.f6 rfl rfl rfl rfl rfl rfl rfl ⟨rfl, rfl, rfl, rfl, rfl⟩ rfl rfl rfl rfl rfl (by kernel_rfl) Try.func6 (by kernel_rfl)
    (of_decide_eq_true (by kernel_rfl)) (by unfold Func.isWrapper; first | (rw [if_pos (by decide +kernel)]; kernel_rfl) | (rw [if_neg (by decide +kernel)]; exact ⟨rfl, rfl⟩))
    (fun os started H enc _ => confTells_lifted os started H enc)
#print axioms confTells_proved
end Go.Proofs.Ytclldbeefbbdlaa
