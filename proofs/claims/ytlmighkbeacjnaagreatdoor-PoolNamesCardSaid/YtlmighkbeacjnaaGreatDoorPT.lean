/- PoolNames: the tied card: the law returns true, whatever its state. No condition. -/
import Derived.Test.YtlmighkbeacjnaaGreatDoorK4
import Derived.Test.YtlmighkbeacjnaaGreatDoorRows
import Derived.Test.YtlmighkbeacjnaaGreatDoorCards
import Derived.Test.YtlmighkbeacjnaaGreatDoorTie
import Derived.ProofKit
import Derived.LaidLaws
import Derived.LaidHandle
import Derived.SevenTiedAt
import Derived.KernelRfl
set_option linter.unusedVariables false
set_option maxRecDepth 100000
open Go Go.Lg
namespace Go.Proofs.YtlmighkbeacjnaaGreatDoor
open Go.ChangeShapes Go.WideShapes Go.ChangeAt Go.RowKit
theorem pg4 [GO] (hgo : GoOK) : PG Tryz.prog 4 [] (.bool true) := pg_of_ev (envG_ok hgo (kAll_ok hgo) kFz kFa) mixedE (fuel := 60) (by kernel_rfl)
theorem own0 : ownKnob Tryz.prog.godebug = none := by kernel_rfl
theorem zet : Tryz.prog.globalNamed "errors.errorType" = some 0 := by kernel_rfl
theorem zrt : (Tryz.prog.cutTypes.find? (·.1 == "internal/reflectlite.rtype")).map (·.2) = some 158 := by kernel_rfl
theorem zOne : ((List.range 246).filter fun t => Tryz.prog.rowNamed t [101, 114, 114, 111, 114]) = [81] := by kernel_rfl
theorem zSize : Tryz.prog.types.size = 246 := by kernel_rfl
noncomputable def LD : List (String × DataW Unit) := [("errors.errorType", Rows.laid_errors_errorType)]
/-- What the condition gives: the variable's one cell. -/
theorem handle_of_laid {W : World} (h : laidMetH Tryz.prog LD W) : W.cell? ⟨0, 0, none⟩ = some (.iface 158 (.agg #[.pointer (some ⟨1, 81, none⟩)])) := by
  have h' : laidMet Tryz.prog [] W ∧ handlesMet Tryz.prog LD W := h
  obtain ⟨name, u, ty, e1, e2, e3, e4, e5⟩ := h'.2 _ (List.mem_singleton.2 rfl)
  have en : name = [101, 114, 114, 111, 114] := (Option.some.inj e1).symm
  subst en
  obtain rfl := Option.some.inj (zrt.symm.trans e2)
  have hm : ty ∈ (List.range 246).filter fun t => Tryz.prog.rowNamed t [101, 114, 114, 111, 114] := List.mem_filter.2 ⟨List.mem_range.2 (by rw [← zSize]; exact e3), e4⟩
  rw [zOne] at hm
  obtain rfl := List.mem_singleton.1 hm
  have hh : typeHandle Tryz.prog 81 = .pointer (some ⟨1, 81, none⟩) := by kernel_rfl
  rw [hh] at e5
  simpa using World.var?_cell zet e5 0
theorem obj_of_laid {W : World} (h : laidMetH Tryz.prog LD W) : ∃ o, W.heap[0]? = some o ∧ @GoOK ⟨fun _ => o⟩ := by
  have hc := handle_of_laid h
  unfold World.cell? at hc
  split at hc
  · rename_i c ty fr hh
    exact ⟨_, hh, c, ty, fr, rfl, by simpa using hc⟩
  · cases hc
/-- A world that meets the condition. -/
noncomputable def laidWorld (os : Os) : World :=
  let w0 := World.holding Tryz.prog os ⟨#[], #[], []⟩
  { w0 with heap := w0.heap.modify 0 fun
      | .cells _ t frozen => .cells #[.iface 158 (.agg #[.pointer (some ⟨1, 81, none⟩)])] t frozen
      | o => o }
theorem laidWorld_met (os : Os) (args : Array Value) : laidMetH Tryz.prog LD ((laidWorld os).forCall (fun _ _ => 0) ⟨#[], args, []⟩).memory :=
  laidMetH_of_parts (laidMet_nil _ _) (by kernel_rfl)
theorem poolNames_lifted (os : Os) (started : os.Started) (H : Type) (enc : TypeId × Value → H) :
    ReturnsInHanded {} Tryz.checked os 4 .any (fun w args => (Rows.poolNamesSpec.pre enc Tryz.prog Tryz.f4 [] false w args ∧ laidMetH Tryz.prog LD w) ∧ sizedMet enc Tryz.prog Tryz.f4 (OpenSpec.ofChange Rows.poolNamesSpec) false w args)
      (Rows.poolNamesSpec.post enc Tryz.prog Tryz.f4 false true false false) := by
  refine returnsInHanded_of_change_and (C := Tryz.checked) (X := fun w _ => laidMetH Tryz.prog LD w) (fun _ _ _ hh h => h.of_heap hh) own0 started (by kernel_rfl) Tryz.func4
    (ChangeSpec.witness_at (enc := enc) (C := Tryz.checked) (os := os) (X := fun w _ => laidMetH Tryz.prog LD w) false (laidWorld os) #[] 8 rfl (by kernel_rfl) (by kernel_rfl) (by kernel_rfl) (by kernel_rfl) (by kernel_rfl) (laidWorld_met os _)) ?_
  intro W base args ds gs before hval0 hW _ _ hL _
  have hW' := hW
  obtain ⟨p, q, hA0, hV, rfl, hfz, hnd⟩ := hW
  have hA : DataW.TrodAll enc Tryz.prog W 0 (fun _ => true) true Tryz.f4.params.toList args.toList ds p := hA0
  rw [Tryz.params4] at hA
  obtain ⟨hargs, rfl, rfl⟩ := trodAll_nil hA
  obtain rfl : args = #[] := by cases args; simp_all
  obtain ⟨rfl, rfl⟩ := trodVars_none hV
  clear hA0 hval0
  obtain ⟨o, ho, hgo⟩ := obj_of_laid hL
  refine (calls_of_pg W o ho (@pg4 ⟨fun _ => o⟩ hgo)).mono fun e W' ⟨he, bel⟩ => ?_
  subst he
  exact ⟨_, rfl, _, _, _, [], _, [], hW', trodAll_mk1 (shut_bool Tryz.underlying4 _), trodAll_mk0, rfl, bel.frame _, fun h => by cases h⟩
theorem poolNames_row : Rows.PoolNamesSaid :=
  OpenClaim.holds_of_wide 4 Tryz.f4 rfl rfl rfl rfl rfl rfl rfl ⟨rfl, rfl, rfl, rfl, rfl⟩ rfl rfl rfl rfl rfl (by kernel_rfl) Tryz.func4 (by kernel_rfl)
    (of_decide_eq_true (by kernel_rfl)) (by unfold Func.isWrapper; first | (rw [if_pos (by decide +kernel)]; kernel_rfl) | (rw [if_neg (by decide +kernel)]; exact ⟨rfl, rfl⟩))
    (fun os started H enc _ => poolNames_lifted os started H enc)
theorem poolNames_proved : Rows.PoolNamesCardSaid :=
  Claim7.holds_tied_plain_at .later [] [.handle] true (true, "64a53cd4c1b3e9515e009f2813280166f3d1166dbf27dc3a70f1b848b98aba82") true
    poolNames_row (fun _ h => by cases h) (by kernel_rfl) (fun _ h => by cases h) poolNames_row_tie rfl ⟨rfl, rfl⟩ (by kernel_rfl) rfl
    (fun f fn hf hfn => by
      obtain rfl : f = 4 := Option.some.inj ((show Tryz.prog.funcNamed "thimblerig/thimbleriglaw26.PoolNames" = some 4 by kernel_rfl).symm.trans hf) |>.symm
      obtain rfl : fn = Tryz.f4 := (Option.some.inj (Tryz.func4.symm.trans hfn)).symm
      exact ⟨by kernel_rfl, fun j t ht => by
        rw [Tryz.params4] at ht
        simp at ht⟩)
    (by kernel_rfl)
#print axioms poolNames_proved
end Go.Proofs.YtlmighkbeacjnaaGreatDoor
