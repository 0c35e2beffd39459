/- FramesClock: the law computes true. -/
import Derived.Test.YtlmighkbeacjnaaF10
open Go Go.Lg
set_option linter.unusedSimpArgs false
set_option linter.unusedVariables false
set_option maxHeartbeats 4000000
set_option maxRecDepth 20000
namespace Go.Proofs.Ytlmighkbeacjnaa
theorem great_small {l : List Fr} (h : greatF l = false) : l.length ≤ 20 ∧ ∀ x, x ∈ l → x.d.length ≤ 100 ∧ x.pins.length ≤ 20 := by
  simp only [greatF, Bool.or_eq_false_iff, decide_eq_false_iff_not] at h
  have hl : l.length ≤ 20 := by omega
  rw [List.take_of_length_le hl] at h
  refine ⟨hl, fun x hx => ?_⟩
  have := (List.any_eq_false.1 h.1) x hx
  simp [bigF] at this
  omega
theorem pf3_great (c : Cf) (f : Fs) (hg : greatF f.l = true) : PF Try.prog 3 [.agg c.cells, .agg f.cells] (fun r => r = .bool true) := by
  refine pf_of_w0 Try.func3 (c := _) rfl rfl (Nat.le_of_ble_eq_true rfl) (args_2 (cf_pur c) (fsa_pur f)) ?_
  rw [show Try.f3.ntmps = 204 from rfl]
  have tE := And.intro (@upd_upd AV) <| And.intro (@upd_upd (Option Blk)) <| And.intro Cf.cells.eq_1 <| And.intro Fs.cells.eq_1 <| And.intro hg <| And.intro ty3 <| And.intro ty4 <| And.intro ty5 <| And.intro ty23 <| And.intro ty24 <| And.intro ty26 <| And.intro ty29 <| And.intro ty34 <| And.intro ty35 <| And.intro ty37 <| Try.results3; repeat' first | ((with_reducible first | apply w_seq | apply w_region | apply wl_nil | apply wr_nil | apply wr_nilA | apply wr_nilE | apply go_normal | apply go_ret | apply go_exit | apply blk_normal | apply blk_ret | apply blk_here | apply w_block | apply w_skip | apply w_exit | apply w_label)) | ((with_reducible first | apply wz (tok Try.prog) | apply wr_z (tok Try.prog)); exact zZ; decide) | ((with_reducible first | apply wskip' | apply wr_skip); exact zU; exact zL; exact zU; decide) | ((with_reducible first | apply wcall' | apply wr_call); exact zV; exact zVs; exact zAs; (focus (with_unfolding_all first | exact pf9 | exact pf10 f)); decide) | ((with_reducible first | apply w_ift'); exact zV; exact zU) | ((with_reducible apply w_ret); (repeat (with_reducible first | apply go_ret | apply blk_ret)); (with_reducible apply done_ret (tok Try.prog)); exact zT; exact zD; exact zX) | fail
  all_goals try clear tE
  rfl
theorem pf3_bad (c : Cf) (f : Fs) (hg : greatF f.l = false) (hok : okF c f = false) : PF Try.prog 3 [.agg c.cells, .agg f.cells] (fun r => r = .bool true) := by
  obtain ⟨hl, hd⟩ := great_small hg
  have ev : eF c f = 8 := by simp [eF, hok]
  have h11 := pf11 c f (by omega) (fun x hx => by have := (hd x hx).2; omega)
  refine pf_of_w0 Try.func3 (c := _) rfl rfl (Nat.le_of_ble_eq_true rfl) (args_2 (cf_pur c) (fsa_pur f)) ?_
  rw [show Try.f3.ntmps = 204 from rfl]
  have tE := And.intro (@upd_upd AV) <| And.intro (@upd_upd (Option Blk)) <| And.intro Cf.cells.eq_1 <| And.intro Fs.cells.eq_1 <| And.intro hg <| And.intro ev <| And.intro ty3 <| And.intro ty4 <| And.intro ty5 <| And.intro ty23 <| And.intro ty24 <| And.intro ty26 <| And.intro ty29 <| And.intro ty34 <| And.intro ty35 <| And.intro ty37 <| Try.results3; repeat' first | ((with_reducible first | apply w_seq | apply w_region | apply wl_nil | apply wr_nil | apply wr_nilA | apply wr_nilE | apply go_normal | apply go_ret | apply go_exit | apply blk_normal | apply blk_ret | apply blk_here | apply w_block | apply w_skip | apply w_exit | apply w_label)) | ((with_reducible first | apply wz (tok Try.prog) | apply wr_z (tok Try.prog)); exact zZ; decide) | ((with_reducible first | apply wzg (tok Try.prog) | apply wr_zg (tok Try.prog)); exact zU; exact zL; exact zU; exact zZ; decide) | ((with_reducible first | apply wskip' | apply wr_skip); exact zU; exact zL; exact zU; decide) | ((with_reducible first | apply wcall' | apply wr_call); exact zV; exact zVs; exact zAs; (focus (with_unfolding_all first | exact pf9 | exact pf10 f | exact h11)); decide) | ((with_reducible first | apply wcallg' | apply wr_callg); exact zU; exact zL; exact zU; exact zV; exact zVs; exact zAs; (focus (with_unfolding_all first | exact pf9 | exact pf10 f | exact h11)); decide) | ((with_reducible first | apply w_ift'); exact zV; exact zU) | ((with_reducible apply w_ret); (repeat (with_reducible first | apply go_ret | apply blk_ret)); (with_reducible apply done_ret (tok Try.prog)); exact zT; exact zD; exact zX) | fail
  all_goals try clear tE
  rfl
/-- The law's first loop, for any answer of the clock. -/
def allRf (l : List Fr) : Bool := l.all fun x => !freeF x || x.rf
theorem pf3_none (c : Cf) (f : Fs) (hg : greatF f.l = false) (hok : okF c f = true) (hv : vic f.l f.h.toNat = none) : PF Try.prog 3 [.agg c.cells, .agg f.cells] (fun r => r = .bool true) := by
  obtain ⟨hl, hd⟩ := great_small hg
  obtain ⟨k1, k2, k3, k4, k5⟩ := okF_parts hok
  have hm := okL_may k5
  have hno := vic_none hm (h := f.h.toNat) (by omega) hv
  have ev : eF c f = 0 := by simp [eF, hok]
  have h11 := pf11 c f (by omega) (fun x hx => by have := (hd x hx).2; omega)
  have h12 : PF Try.prog 12 [.agg c.cells, .agg f.cells] (fun r => r = .tuple [.agg [.view [], .int .i64 0], .int .i64 0, .int .i64 250]) := by
    have := (nf12 c f (by omega) (fun x hx => by have := hd x hx; omega)).pf
    simpa [vicF, vicA, vicE, hok, hv, Fs.cells, frRows] using this
  refine pf_of_w0 Try.func3 (c := _) rfl rfl (Nat.le_of_ble_eq_true rfl) (args_2 (cf_pur c) (fsa_pur f)) ?_
  rw [show Try.f3.ntmps = 204 from rfl]
  have hcv : Pur (.vptr c.cells) := .vptr (cells_pur c)
  have hfv : Pur (.vptr f.cells) := .vptr (fs_pur f)
  have tE := And.intro (@upd_upd AV) <| And.intro (@upd_upd (Option Blk)) <| And.intro Cf.cells.eq_1 <| And.intro Fs.cells.eq_1 <| And.intro hg <| And.intro ev <| And.intro ty3 <| And.intro ty4 <| And.intro ty5 <| And.intro ty23 <| And.intro ty24 <| And.intro ty26 <| And.intro ty29 <| And.intro ty34 <| And.intro ty35 <| And.intro ty37 <| Try.results3; repeat' first | ((with_reducible first | apply w_seq | apply w_region | apply wl_nil | apply wr_nil | apply wr_nilA | apply wr_nilE | apply go_normal | apply go_ret | apply go_exit | apply blk_normal | apply blk_ret | apply blk_here | apply w_block | apply w_skip | apply w_exit | apply w_label)) | ((with_reducible first | apply wz (tok Try.prog) | apply wr_z (tok Try.prog)); exact zZ; decide) | ((with_reducible first | apply wzg (tok Try.prog) | apply wr_zg (tok Try.prog)); exact zU; exact zL; exact zU; exact zZ; decide) | ((with_reducible first | apply w_alloc (tok Try.prog)); exact zT; decide) | ((with_reducible first | apply w_store (tok Try.prog)); exact zV; exact zV; exact zS) | ((with_reducible first | apply wcall' | apply wr_call); exact zV; exact zVs; exact zAs; (focus (with_unfolding_all first | exact pf9 | exact pf10 f | exact h11 | exact h12)); decide) | ((with_reducible first | apply wcallg' | apply wr_callg); exact zU; exact zL; exact zU; exact zV; exact zVs; exact zAs; (focus (with_unfolding_all first | exact pf9 | exact pf10 f | exact h11 | exact h12)); decide) | ((with_reducible first | apply w_iff'); exact zV; exact zU) | fail
  all_goals try clear tE
  refine w_loopS (S := Nat) (fun i => [(2, .vptr c.cells), (3, .vptr f.cells), (5, .bool true), (6, .ptr 0 0), (7, .int .i64 0), (8, .int .i64 250), (9, .bool false), (11, .int .i64 (i : Int))]) (fun _ => [some (.cells [.view [], .int .i64 0] 26)]) [] (fun i => i ≤ f.l.length) (fun i => f.l.length - i) 0 ?_ (Nat.zero_le _) ?_
  · (have tu0 : Pur _ := hcv; have tu1 : Pur _ := hfv; have tE := And.intro (@upd_upd AV) <| @upd_upd (Option Blk); exact kcanS [0])
  · intro i hi
    simp only [St.ofS, List.length_nil, List.length_cons, Nat.zero_add]
    have hw : IntKind.i64.wrap ((i : Int) + 1) = ((i + 1 : Nat) : Int) := by rw [wrap64 (by omega) (by omega)]; rfl
    by_cases e : i < f.l.length
    · have g1 : ((i : Int) < (f.l.length : Int)) = True := by simp; omega
      have g0 : (0 ≤ (i : Int)) = True := by simp
      obtain ⟨u, hu⟩ : ∃ u, f.l[i]? = some u := ⟨f.l[i], List.getElem?_eq_getElem e⟩
      have hr := fr_row hu
      have hf : freeF u = false := by
        have := (List.any_eq_false.1 hno) u (List.mem_of_getElem? hu)
        simpa using this
      have h13 := pf13 u (by have := (hd u (List.mem_of_getElem? hu)).2; omega)
      have tE := And.intro (@upd_upd AV) <| And.intro (@upd_upd (Option Blk)) <| And.intro g1 <| And.intro g0 <| And.intro hr <| And.intro hw <| And.intro hf <| And.intro Fs.cells.eq_1 <| And.intro Fr.cells.eq_1 <| And.intro frRows_len <| And.intro ty3 <| And.intro ty4 <| And.intro ty5 <| And.intro ty23 <| And.intro ty24 <| And.intro ty26 <| And.intro ty29 <| And.intro ty34 <| And.intro ty35 <| And.intro ty37 <| Try.results3; repeat' first | ((with_reducible first | apply w_seq | apply w_region | apply wl_nil | apply wr_nil | apply wr_nilA | apply wr_nilE | apply go_normal | apply go_ret | apply go_exit | apply blk_normal | apply blk_ret | apply blk_here | apply w_block | apply w_skip | apply w_exit | apply w_label)) | ((with_reducible first | apply wz (tok Try.prog) | apply wr_z (tok Try.prog)); exact zZ; decide) | ((with_reducible first | apply wcall' | apply wr_call); exact zV; exact zVs; exact zAs; (focus (with_unfolding_all first | exact h13)); decide) | ((with_reducible first | apply w_ift'); exact zV; exact zU) | ((with_reducible first | apply w_iff'); exact zV; exact zU) | fail
      all_goals try clear tE
      refine ⟨i + 1, by omega, by omega, ?_⟩
      (have tu0 : Pur _ := hcv; have tu1 : Pur _ := hfv; have tE := And.intro (@upd_upd AV) <| @upd_upd (Option Blk); exact kcanS [0])
    · have g1 : ((i : Int) < (f.l.length : Int)) = False := by simp; omega
      have tE := And.intro (@upd_upd AV) <| And.intro (@upd_upd (Option Blk)) <| And.intro g1 <| And.intro Fs.cells.eq_1 <| And.intro frRows_len <| And.intro ty3 <| And.intro ty4 <| And.intro ty5 <| And.intro ty23 <| And.intro ty24 <| And.intro ty26 <| And.intro ty29 <| And.intro ty34 <| And.intro ty35 <| And.intro ty37 <| Try.results3; repeat' first | ((with_reducible first | apply w_seq | apply w_region | apply wl_nil | apply wr_nil | apply wr_nilA | apply wr_nilE | apply go_normal | apply go_ret | apply go_exit | apply blk_normal | apply blk_ret | apply blk_here | apply w_block | apply w_skip | apply w_exit | apply w_label)) | ((with_reducible first | apply wz (tok Try.prog) | apply wr_z (tok Try.prog)); exact zZ; decide) | ((with_reducible first | apply wzg (tok Try.prog) | apply wr_zg (tok Try.prog)); exact zU; exact zL; exact zU; exact zZ; decide) | ((with_reducible first | apply w_ift'); exact zV; exact zU) | ((with_reducible first | apply w_iff'); exact zV; exact zU) | ((with_reducible apply w_ret); (repeat (with_reducible first | apply go_ret | apply blk_ret)); (with_reducible apply done_ret (tok Try.prog)); exact zT; exact zD; exact zX) | fail
      all_goals try clear tE
      rfl
theorem oFlat_setrf {l : List Fr} {m : List (AV × AV)} {i : Nat} {u : Fr} {ab : AV × AV} {b : Bool} (h : l[i]? = some u) (h' : m[i]? = some ab) : (oRows l m).flatten.set (i * 6 + 4) (.bool b) = (oRows (l.set i { u with rf := b }) m).flatten :=
  oFlat_set4 (v := { u with rf := b }) h h' rfl
theorem mixed_set {l s : List Fr} {j : Nat} {x y : Fr} (hl : s.length = l.length) (hx : l[j]? = some x) (hy : s[j]? = some y) (hxy : { y with rf := x.rf } = x) : (mixed_ l s j).set j { y with rf := x.rf } = mixed_ l s (j + 1) := by
  have hj := (List.getElem?_eq_some_iff.1 hx).1
  rw [hxy, mixed_, mixed_, List.take_add_one, hx, List.drop_eq_getElem_cons (show j < s.length by omega)]
  rw [List.set_append_right _ _ (by rw [List.length_take]; omega), List.length_take, Nat.min_eq_left (by omega), Nat.sub_self, List.set_cons_zero]
  simp
theorem mixed_at {l s : List Fr} {j : Nat} {y : Fr} (hj : j ≤ l.length) (hy : s[j]? = some y) : (mixed_ l s j)[j]? = some y := by
  rw [mixed_, List.getElem?_append_right (by rw [List.length_take]; omega), List.length_take, Nat.min_eq_left hj, Nat.sub_self, List.getElem?_drop, Nat.add_zero]; exact hy
theorem mixed_len {l s : List Fr} {j : Nat} (hl : s.length = l.length) (hj : j ≤ l.length) : (mixed_ l s j).length = l.length := by
  simp [mixed_]; omega
end Go.Proofs.Ytlmighkbeacjnaa
