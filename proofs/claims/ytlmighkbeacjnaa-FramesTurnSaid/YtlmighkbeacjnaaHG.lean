/- The reference's Load. -/
import Derived.Test.YtlmighkbeacjnaaHF
open Go Go.Lg
set_option linter.unusedSimpArgs false
set_option linter.unusedVariables false
set_option maxHeartbeats 4000000
set_option maxRecDepth 20000
namespace Go.Proofs.Ytlmighkbeacjnaa
theorem args_5 {a b c d e : AV} (ha : Pur a) (hb : Pur b) (hc : Pur c) (hd : Pur d) (he : Pur e) : ∀ x, x ∈ [a, b, c, d, e] → Pur x := fun x hx => by
  simp only [List.mem_cons, List.not_mem_nil, or_false] at hx
  rcases hx with rfl | rfl | rfl | rfl | rfl <;> assumption
theorem pf22 (c : Cf) (f : Fs) (a_ : Int) (page cl : Int) (hl : f.l.length ≤ 1000000) (hd : ∀ x, x ∈ f.l → x.d.length ≤ 1000000 ∧ x.pins.length ≤ 1000000) : PF Try.prog 22 [.agg c.cells, .agg f.cells, .int .i64 a_, .int .i64 page, .int .i64 cl] (fun r => r = .tuple [.agg (turnF c f a_ (fun u => loadE c f a_ page cl u) (fun u => loadV c page cl u)).cells, .int .i64 (turnE c f a_ (fun u => loadE c f a_ page cl u))]) := by
  have h37 := pf37 c f hl (fun x hx => (hd x hx).2)
  refine pf_of_wf0 Try.func22 (c := _) rfl rfl (Nat.le_of_ble_eq_true rfl) (args_5 (cf_pur c) (fsa_pur f) (.int _ _) (.int _ _) (.int _ _)) ?_
  rw [show Try.f22.ntmps = 83 from rfl]
  cases hok : okF c f with
  | false =>
    have ev : eF c f = 8 := by simp [eF, hok]
    rw [ev] at h37
    obtain ⟨t1, t2⟩ := turn_bad (a := a_) (E := (fun u => loadE c f a_ page cl u)) (fun u => loadV c page cl u) hok
    rw [t1, t2]
    have tE := And.intro (@upd_upd AV) <| And.intro (@upd_upd (Option Blk)) <| And.intro Cf.cells.eq_1 <| And.intro Fs.cells.eq_1 <| And.intro frRows_len <| And.intro ty3 <| And.intro ty4 <| And.intro ty5 <| And.intro ty23 <| And.intro ty24 <| And.intro ty26 <| And.intro ty34 <| And.intro ty35 <| And.intro ty37 <| Try.results22; repeat' first | ((with_reducible first | apply w_seq | apply w_region | apply wl_nil | apply wr_nil | apply wr_nilA | apply wr_nilE | apply go_normal | apply go_ret | apply go_exit | apply blk_normal | apply blk_ret | apply blk_here | apply w_block | apply w_skip | apply w_exit | apply w_label)) | ((with_reducible first | apply wz (tok Try.prog) | apply wr_z (tok Try.prog)); exact zZ; decide) | ((with_reducible first | apply w_alloc (tok Try.prog)); exact zT; decide) | ((with_reducible first | apply w_store (tok Try.prog)); exact zV; exact zV; exact zS) | ((with_reducible first | apply wcall' | apply wr_call); exact zV; exact zVs; exact zAs; (focus (with_unfolding_all first | exact h37)); decide) | ((with_reducible first | apply w_ift'); exact zV; exact zU) | ((with_reducible apply w_ret); (repeat (with_reducible first | apply go_ret | apply blk_ret)); (with_reducible first | apply donef_ret (tok Try.prog) | apply doneA_ret (tok Try.prog)); exact zT; exact zD) | fail
    all_goals try clear tE
    · exact tz _ _
    · exact tup_pur (fsa_pur ⟨[], 0⟩) (.int _ _)
    · rfl
  | true =>
    have ev : eF c f = 0 := by simp [eF, hok]
    rw [ev] at h37
    have h59 := pf59 f page hl
    obtain ⟨cl1, cl2, cl3, hpn⟩ := ok_cl hok
    by_cases hr : a_ < 0 ∨ a_ ≥ f.l.length
    · by_cases h : a_ < 0
      · have r1 : (a_ < 0) = True := eq_true h
        obtain ⟨t1, t2⟩ := turn_out (E := (fun u => loadE c f a_ page cl u)) (fun u => loadV c page cl u) hok hr
        rw [t1, t2]
        have tE := And.intro (@upd_upd AV) <| And.intro (@upd_upd (Option Blk)) <| And.intro Cf.cells.eq_1 <| And.intro Fs.cells.eq_1 <| And.intro frRows_len <| And.intro r1 <| And.intro ty3 <| And.intro ty4 <| And.intro ty5 <| And.intro ty23 <| And.intro ty24 <| And.intro ty26 <| And.intro ty34 <| And.intro ty35 <| And.intro ty37 <| Try.results22; repeat' first | ((with_reducible first | apply w_seq | apply w_region | apply wl_nil | apply wr_nil | apply wr_nilA | apply wr_nilE | apply go_normal | apply go_ret | apply go_exit | apply blk_normal | apply blk_ret | apply blk_here | apply w_block | apply w_skip | apply w_exit | apply w_label)) | ((with_reducible first | apply wz (tok Try.prog) | apply wr_z (tok Try.prog)); exact zZ; decide) | ((with_reducible first | apply wskip' | apply wr_skip); exact zU; exact zL; exact zU; decide) | ((with_reducible first | apply w_alloc (tok Try.prog)); exact zT; decide) | ((with_reducible first | apply w_store (tok Try.prog)); exact zV; exact zV; exact zS) | ((with_reducible first | apply wcall' | apply wr_call); exact zV; exact zVs; exact zAs; (focus (with_unfolding_all first | exact h37)); decide) | ((with_reducible first | apply w_ift'); exact zV; exact zU) | ((with_reducible first | apply w_iff'); exact zV; exact zU) | ((with_reducible apply w_ret); (repeat (with_reducible first | apply go_ret | apply blk_ret)); (with_reducible first | apply donef_ret (tok Try.prog) | apply doneA_ret (tok Try.prog)); exact zT; exact zD) | fail
        all_goals try clear tE
        · exact tz _ _
        · exact tup_pur (fsa_pur ⟨[], 0⟩) (.int _ _)
        · rfl
      · have r1 : (a_ < 0) = False := eq_false (by omega)
        have r2 : (a_ ≥ (f.l.length : Int)) = True := eq_true (by omega)
        obtain ⟨t1, t2⟩ := turn_out (E := (fun u => loadE c f a_ page cl u)) (fun u => loadV c page cl u) hok hr
        rw [t1, t2]
        have tE := And.intro (@upd_upd AV) <| And.intro (@upd_upd (Option Blk)) <| And.intro Cf.cells.eq_1 <| And.intro Fs.cells.eq_1 <| And.intro frRows_len <| And.intro r1 <| And.intro r2 <| And.intro ty3 <| And.intro ty4 <| And.intro ty5 <| And.intro ty23 <| And.intro ty24 <| And.intro ty26 <| And.intro ty34 <| And.intro ty35 <| And.intro ty37 <| Try.results22; repeat' first | ((with_reducible first | apply w_seq | apply w_region | apply wl_nil | apply wr_nil | apply wr_nilA | apply wr_nilE | apply go_normal | apply go_ret | apply go_exit | apply blk_normal | apply blk_ret | apply blk_here | apply w_block | apply w_skip | apply w_exit | apply w_label)) | ((with_reducible first | apply wz (tok Try.prog) | apply wr_z (tok Try.prog)); exact zZ; decide) | ((with_reducible first | apply wzg (tok Try.prog) | apply wr_zg (tok Try.prog)); exact zU; exact zL; exact zU; exact zZ; decide) | ((with_reducible first | apply wskip' | apply wr_skip); exact zU; exact zL; exact zU; decide) | ((with_reducible first | apply w_alloc (tok Try.prog)); exact zT; decide) | ((with_reducible first | apply w_store (tok Try.prog)); exact zV; exact zV; exact zS) | ((with_reducible first | apply wcall' | apply wr_call); exact zV; exact zVs; exact zAs; (focus (with_unfolding_all first | exact h37)); decide) | ((with_reducible first | apply w_ift'); exact zV; exact zU) | ((with_reducible first | apply w_iff'); exact zV; exact zU) | ((with_reducible apply w_ret); (repeat (with_reducible first | apply go_ret | apply blk_ret)); (with_reducible first | apply donef_ret (tok Try.prog) | apply doneA_ret (tok Try.prog)); exact zT; exact zD) | fail
        all_goals try clear tE
        · exact tz _ _
        · exact tup_pur (fsa_pur ⟨[], 0⟩) (.int _ _)
        · rfl
    obtain ⟨a, rfl⟩ : ∃ a : Nat, a_ = a := ⟨a_.toNat, by omega⟩
    have ha : a < f.l.length := by omega
    obtain ⟨u, hu⟩ : ∃ u, f.l[a]? = some u := ⟨_, List.getElem?_eq_getElem ha⟩
    have hrow := fr_row hu
    have hdu := hd u (List.mem_of_getElem? hu)
    have c0 : (0 ≤ (a : Int)) = True := by simp
    have c1 : ((a : Int) < (f.l.length : Int)) = True := by simp; omega
    have r1 : ((a : Int) < 0) = False := eq_false (by omega)
    have r2 : ((a : Int) ≥ (f.l.length : Int)) = False := eq_false (by omega)
    have h50 := pf50 u hdu.2
    have hat : ∀ x : Int, ((x != (a : Int)) = true) = (x ≠ (a : Int)) := fun x => by simp
    by_cases hc0 : u.k = 1
    · have m1 : (u.k == 1) = true := by simp [hc0]
      have hEu : loadE c f a page cl u = 2 := by rw [loadE, if_pos (by exact .inl hc0)]
      obtain ⟨t1, t2⟩ := turn_no (E := (fun u => loadE c f a page cl u)) (fun u => loadV c page cl u) hok hu hEu (by decide)
      rw [t1, t2]
      have tE := And.intro (@upd_upd AV) <| And.intro (@upd_upd (Option Blk)) <| And.intro Cf.cells.eq_1 <| And.intro Fs.cells.eq_1 <| And.intro frRows_len <| And.intro hrow <| And.intro c0 <| And.intro c1 <| And.intro r1 <| And.intro r2 <| And.intro m1 <| And.intro hEu <| And.intro ty3 <| And.intro ty4 <| And.intro ty5 <| And.intro ty23 <| And.intro ty24 <| And.intro ty26 <| And.intro ty34 <| And.intro ty35 <| And.intro ty37 <| Try.results22; repeat' first | ((with_reducible first | apply w_seq | apply w_region | apply wl_nil | apply wr_nil | apply wr_nilA | apply wr_nilE | apply go_normal | apply go_ret | apply go_exit | apply blk_normal | apply blk_ret | apply blk_here | apply w_block | apply w_skip | apply w_exit | apply w_label)) | ((with_reducible first | apply wz (tok Try.prog) | apply wr_z (tok Try.prog)); exact zZ; decide) | ((with_reducible first | apply wzg (tok Try.prog) | apply wr_zg (tok Try.prog)); exact zU; exact zL; exact zU; exact zZ; decide) | ((with_reducible first | apply wskip' | apply wr_skip); exact zU; exact zL; exact zU; decide) | ((with_reducible first | apply w_alloc (tok Try.prog)); exact zT; decide) | ((with_reducible first | apply w_store (tok Try.prog)); exact zV; exact zV; exact zS) | ((with_reducible first | apply wcall' | apply wr_call); exact zV; exact zVs; exact zAs; (focus (with_unfolding_all first | exact h37 | exact h50 | exact h59)); decide) | ((with_reducible first | apply w_ift'); exact zV; exact zU) | ((with_reducible first | apply w_iff'); exact zV; exact zU) | ((with_reducible apply w_ret); (repeat (with_reducible first | apply go_ret | apply blk_ret)); (with_reducible first | apply donef_ret (tok Try.prog) | apply doneA_ret (tok Try.prog)); exact zT; exact zD) | fail
      all_goals try clear tE
      · exact tz _ _
      · exact tup_pur (fsa_pur ⟨[], 0⟩) (.int _ _)
      · rfl
    have m1 : (u.k == 1) = false := by simp [hc0]
    by_cases hc1 : pinned u = true
    · have m2 : pinned u = true := hc1
      have hEu : loadE c f a page cl u = 2 := by rw [loadE, if_pos (by exact .inr (.inl hc1))]
      obtain ⟨t1, t2⟩ := turn_no (E := (fun u => loadE c f a page cl u)) (fun u => loadV c page cl u) hok hu hEu (by decide)
      rw [t1, t2]
      have tE := And.intro (@upd_upd AV) <| And.intro (@upd_upd (Option Blk)) <| And.intro Cf.cells.eq_1 <| And.intro Fs.cells.eq_1 <| And.intro frRows_len <| And.intro hrow <| And.intro c0 <| And.intro c1 <| And.intro r1 <| And.intro r2 <| And.intro m1 <| And.intro m2 <| And.intro hEu <| And.intro ty3 <| And.intro ty4 <| And.intro ty5 <| And.intro ty23 <| And.intro ty24 <| And.intro ty26 <| And.intro ty34 <| And.intro ty35 <| And.intro ty37 <| Try.results22; repeat' first | ((with_reducible first | apply w_seq | apply w_region | apply wl_nil | apply wr_nil | apply wr_nilA | apply wr_nilE | apply go_normal | apply go_ret | apply go_exit | apply blk_normal | apply blk_ret | apply blk_here | apply w_block | apply w_skip | apply w_exit | apply w_label)) | ((with_reducible first | apply wz (tok Try.prog) | apply wr_z (tok Try.prog)); exact zZ; decide) | ((with_reducible first | apply wzg (tok Try.prog) | apply wr_zg (tok Try.prog)); exact zU; exact zL; exact zU; exact zZ; decide) | ((with_reducible first | apply wskip' | apply wr_skip); exact zU; exact zL; exact zU; decide) | ((with_reducible first | apply w_alloc (tok Try.prog)); exact zT; decide) | ((with_reducible first | apply w_store (tok Try.prog)); exact zV; exact zV; exact zS) | ((with_reducible first | apply wcall' | apply wr_call); exact zV; exact zVs; exact zAs; (focus (with_unfolding_all first | exact h37 | exact h50 | exact h59)); decide) | ((with_reducible first | apply wcallg' | apply wr_callg); exact zU; exact zL; exact zU; exact zV; exact zVs; exact zAs; (focus (with_unfolding_all first | exact h37 | exact h50 | exact h59)); decide) | ((with_reducible first | apply w_ift'); exact zV; exact zU) | ((with_reducible first | apply w_iff'); exact zV; exact zU) | ((with_reducible apply w_ret); (repeat (with_reducible first | apply go_ret | apply blk_ret)); (with_reducible first | apply donef_ret (tok Try.prog) | apply doneA_ret (tok Try.prog)); exact zT; exact zD) | fail
      all_goals try clear tE
      · exact tz _ _
      · exact tup_pur (fsa_pur ⟨[], 0⟩) (.int _ _)
      · rfl
    have m2 : pinned u = false := by simpa using hc1
    by_cases hc2 : page < 0
    · have m3 : (page < 0) = True := eq_true hc2
      have hEu : loadE c f a page cl u = 2 := by rw [loadE, if_pos (by exact .inr (.inr (.inl hc2)))]
      obtain ⟨t1, t2⟩ := turn_no (E := (fun u => loadE c f a page cl u)) (fun u => loadV c page cl u) hok hu hEu (by decide)
      rw [t1, t2]
      have tE := And.intro (@upd_upd AV) <| And.intro (@upd_upd (Option Blk)) <| And.intro Cf.cells.eq_1 <| And.intro Fs.cells.eq_1 <| And.intro frRows_len <| And.intro hrow <| And.intro c0 <| And.intro c1 <| And.intro r1 <| And.intro r2 <| And.intro m1 <| And.intro m2 <| And.intro m3 <| And.intro hEu <| And.intro ty3 <| And.intro ty4 <| And.intro ty5 <| And.intro ty23 <| And.intro ty24 <| And.intro ty26 <| And.intro ty34 <| And.intro ty35 <| And.intro ty37 <| Try.results22; repeat' first | ((with_reducible first | apply w_seq | apply w_region | apply wl_nil | apply wr_nil | apply wr_nilA | apply wr_nilE | apply go_normal | apply go_ret | apply go_exit | apply blk_normal | apply blk_ret | apply blk_here | apply w_block | apply w_skip | apply w_exit | apply w_label)) | ((with_reducible first | apply wz (tok Try.prog) | apply wr_z (tok Try.prog)); exact zZ; decide) | ((with_reducible first | apply wzg (tok Try.prog) | apply wr_zg (tok Try.prog)); exact zU; exact zL; exact zU; exact zZ; decide) | ((with_reducible first | apply wskip' | apply wr_skip); exact zU; exact zL; exact zU; decide) | ((with_reducible first | apply w_alloc (tok Try.prog)); exact zT; decide) | ((with_reducible first | apply w_store (tok Try.prog)); exact zV; exact zV; exact zS) | ((with_reducible first | apply wcall' | apply wr_call); exact zV; exact zVs; exact zAs; (focus (with_unfolding_all first | exact h37 | exact h50 | exact h59)); decide) | ((with_reducible first | apply wcallg' | apply wr_callg); exact zU; exact zL; exact zU; exact zV; exact zVs; exact zAs; (focus (with_unfolding_all first | exact h37 | exact h50 | exact h59)); decide) | ((with_reducible first | apply w_ift'); exact zV; exact zU) | ((with_reducible first | apply w_iff'); exact zV; exact zU) | ((with_reducible apply w_ret); (repeat (with_reducible first | apply go_ret | apply blk_ret)); (with_reducible first | apply donef_ret (tok Try.prog) | apply doneA_ret (tok Try.prog)); exact zT; exact zD) | fail
      all_goals try clear tE
      · exact tz _ _
      · exact tup_pur (fsa_pur ⟨[], 0⟩) (.int _ _)
      · rfl
    have m3 : (page < 0) = False := eq_false hc2
    by_cases hc3 : page ≥ c.p
    · have m4 : (page ≥ c.p) = True := eq_true hc3
      have hEu : loadE c f a page cl u = 2 := by rw [loadE, if_pos (by exact .inr (.inr (.inr (.inl hc3))))]
      obtain ⟨t1, t2⟩ := turn_no (E := (fun u => loadE c f a page cl u)) (fun u => loadV c page cl u) hok hu hEu (by decide)
      rw [t1, t2]
      have tE := And.intro (@upd_upd AV) <| And.intro (@upd_upd (Option Blk)) <| And.intro Cf.cells.eq_1 <| And.intro Fs.cells.eq_1 <| And.intro frRows_len <| And.intro hrow <| And.intro c0 <| And.intro c1 <| And.intro r1 <| And.intro r2 <| And.intro m1 <| And.intro m2 <| And.intro m3 <| And.intro m4 <| And.intro hEu <| And.intro ty3 <| And.intro ty4 <| And.intro ty5 <| And.intro ty23 <| And.intro ty24 <| And.intro ty26 <| And.intro ty34 <| And.intro ty35 <| And.intro ty37 <| Try.results22; repeat' first | ((with_reducible first | apply w_seq | apply w_region | apply wl_nil | apply wr_nil | apply wr_nilA | apply wr_nilE | apply go_normal | apply go_ret | apply go_exit | apply blk_normal | apply blk_ret | apply blk_here | apply w_block | apply w_skip | apply w_exit | apply w_label)) | ((with_reducible first | apply wz (tok Try.prog) | apply wr_z (tok Try.prog)); exact zZ; decide) | ((with_reducible first | apply wzg (tok Try.prog) | apply wr_zg (tok Try.prog)); exact zU; exact zL; exact zU; exact zZ; decide) | ((with_reducible first | apply wskip' | apply wr_skip); exact zU; exact zL; exact zU; decide) | ((with_reducible first | apply w_alloc (tok Try.prog)); exact zT; decide) | ((with_reducible first | apply w_store (tok Try.prog)); exact zV; exact zV; exact zS) | ((with_reducible first | apply wcall' | apply wr_call); exact zV; exact zVs; exact zAs; (focus (with_unfolding_all first | exact h37 | exact h50 | exact h59)); decide) | ((with_reducible first | apply wcallg' | apply wr_callg); exact zU; exact zL; exact zU; exact zV; exact zVs; exact zAs; (focus (with_unfolding_all first | exact h37 | exact h50 | exact h59)); decide) | ((with_reducible first | apply w_ift'); exact zV; exact zU) | ((with_reducible first | apply w_iff'); exact zV; exact zU) | ((with_reducible apply w_ret); (repeat (with_reducible first | apply go_ret | apply blk_ret)); (with_reducible first | apply donef_ret (tok Try.prog) | apply doneA_ret (tok Try.prog)); exact zT; exact zD) | fail
      all_goals try clear tE
      · exact tz _ _
      · exact tup_pur (fsa_pur ⟨[], 0⟩) (.int _ _)
      · rfl
    have m4 : (page ≥ c.p) = False := eq_false hc3
    by_cases hc4 : cl < 0
    · have m5 : (cl < 0) = True := eq_true hc4
      have hEu : loadE c f a page cl u = 2 := by rw [loadE, if_pos (by exact .inr (.inr (.inr (.inr (.inl hc4)))))]
      obtain ⟨t1, t2⟩ := turn_no (E := (fun u => loadE c f a page cl u)) (fun u => loadV c page cl u) hok hu hEu (by decide)
      rw [t1, t2]
      have tE := And.intro (@upd_upd AV) <| And.intro (@upd_upd (Option Blk)) <| And.intro Cf.cells.eq_1 <| And.intro Fs.cells.eq_1 <| And.intro frRows_len <| And.intro hrow <| And.intro c0 <| And.intro c1 <| And.intro r1 <| And.intro r2 <| And.intro m1 <| And.intro m2 <| And.intro m3 <| And.intro m4 <| And.intro m5 <| And.intro hEu <| And.intro ty3 <| And.intro ty4 <| And.intro ty5 <| And.intro ty23 <| And.intro ty24 <| And.intro ty26 <| And.intro ty34 <| And.intro ty35 <| And.intro ty37 <| Try.results22; repeat' first | ((with_reducible first | apply w_seq | apply w_region | apply wl_nil | apply wr_nil | apply wr_nilA | apply wr_nilE | apply go_normal | apply go_ret | apply go_exit | apply blk_normal | apply blk_ret | apply blk_here | apply w_block | apply w_skip | apply w_exit | apply w_label)) | ((with_reducible first | apply wz (tok Try.prog) | apply wr_z (tok Try.prog)); exact zZ; decide) | ((with_reducible first | apply wzg (tok Try.prog) | apply wr_zg (tok Try.prog)); exact zU; exact zL; exact zU; exact zZ; decide) | ((with_reducible first | apply wskip' | apply wr_skip); exact zU; exact zL; exact zU; decide) | ((with_reducible first | apply w_alloc (tok Try.prog)); exact zT; decide) | ((with_reducible first | apply w_store (tok Try.prog)); exact zV; exact zV; exact zS) | ((with_reducible first | apply wcall' | apply wr_call); exact zV; exact zVs; exact zAs; (focus (with_unfolding_all first | exact h37 | exact h50 | exact h59)); decide) | ((with_reducible first | apply wcallg' | apply wr_callg); exact zU; exact zL; exact zU; exact zV; exact zVs; exact zAs; (focus (with_unfolding_all first | exact h37 | exact h50 | exact h59)); decide) | ((with_reducible first | apply w_ift'); exact zV; exact zU) | ((with_reducible first | apply w_iff'); exact zV; exact zU) | ((with_reducible apply w_ret); (repeat (with_reducible first | apply go_ret | apply blk_ret)); (with_reducible first | apply donef_ret (tok Try.prog) | apply doneA_ret (tok Try.prog)); exact zT; exact zD) | fail
      all_goals try clear tE
      · exact tz _ _
      · exact tup_pur (fsa_pur ⟨[], 0⟩) (.int _ _)
      · rfl
    have m5 : (cl < 0) = False := eq_false hc4
    by_cases hc5 : cl ≥ c.cl
    · have m6 : (cl ≥ c.cl) = True := eq_true hc5
      have hEu : loadE c f a page cl u = 2 := by rw [loadE, if_pos (by exact .inr (.inr (.inr (.inr (.inr (.inl hc5))))))]
      obtain ⟨t1, t2⟩ := turn_no (E := (fun u => loadE c f a page cl u)) (fun u => loadV c page cl u) hok hu hEu (by decide)
      rw [t1, t2]
      have tE := And.intro (@upd_upd AV) <| And.intro (@upd_upd (Option Blk)) <| And.intro Cf.cells.eq_1 <| And.intro Fs.cells.eq_1 <| And.intro frRows_len <| And.intro hrow <| And.intro c0 <| And.intro c1 <| And.intro r1 <| And.intro r2 <| And.intro m1 <| And.intro m2 <| And.intro m3 <| And.intro m4 <| And.intro m5 <| And.intro m6 <| And.intro hEu <| And.intro ty3 <| And.intro ty4 <| And.intro ty5 <| And.intro ty23 <| And.intro ty24 <| And.intro ty26 <| And.intro ty34 <| And.intro ty35 <| And.intro ty37 <| Try.results22; repeat' first | ((with_reducible first | apply w_seq | apply w_region | apply wl_nil | apply wr_nil | apply wr_nilA | apply wr_nilE | apply go_normal | apply go_ret | apply go_exit | apply blk_normal | apply blk_ret | apply blk_here | apply w_block | apply w_skip | apply w_exit | apply w_label)) | ((with_reducible first | apply wz (tok Try.prog) | apply wr_z (tok Try.prog)); exact zZ; decide) | ((with_reducible first | apply wzg (tok Try.prog) | apply wr_zg (tok Try.prog)); exact zU; exact zL; exact zU; exact zZ; decide) | ((with_reducible first | apply w_alloc (tok Try.prog)); exact zT; decide) | ((with_reducible first | apply w_store (tok Try.prog)); exact zV; exact zV; exact zS) | ((with_reducible first | apply wcall' | apply wr_call); exact zV; exact zVs; exact zAs; (focus (with_unfolding_all first | exact h37 | exact h50 | exact h59)); decide) | ((with_reducible first | apply wcallg' | apply wr_callg); exact zU; exact zL; exact zU; exact zV; exact zVs; exact zAs; (focus (with_unfolding_all first | exact h37 | exact h50 | exact h59)); decide) | ((with_reducible first | apply w_ift'); exact zV; exact zU) | ((with_reducible first | apply w_iff'); exact zV; exact zU) | ((with_reducible apply w_ret); (repeat (with_reducible first | apply go_ret | apply blk_ret)); (with_reducible first | apply donef_ret (tok Try.prog) | apply doneA_ret (tok Try.prog)); exact zT; exact zD) | fail
      all_goals try clear tE
      · exact tz _ _
      · exact tup_pur (fsa_pur ⟨[], 0⟩) (.int _ _)
      · rfl
    have m6 : (cl ≥ c.cl) = False := eq_false hc5
    by_cases ht : fidx (isAt page) f.l 0 ≥ 0
    · have m7 : (fidx (isAt page) f.l 0 ≥ 0) = True := eq_true ht
      by_cases hta : fidx (isAt page) f.l 0 = a
      · have m8 : (fidx (isAt page) f.l 0 != (a : Int)) = false := by simp [hta]
        obtain ⟨k, rfl⟩ : ∃ k : Nat, cl = k := ⟨cl.toNat, by omega⟩
        have h61 := pf61 c page k c.cl.toNat u cl3 (by omega) (by omega)
        have h60 := pf60 f a (loadV c page k u) ha hl hd (by simp [loadV]) (by simp [loadV]; omega)
        have hEu : loadE c f a page k u = 0 := by rw [loadE, if_neg (by rintro (h | h | h | h | h | h | ⟨h, h'⟩) <;> first | exact hc0 h | exact hc1 h | exact h' hta | omega)]
        obtain ⟨t1, t2⟩ := turn_yes (E := fun u => loadE c f a page k u) (fun u => loadV c page k u) hok hu hEu
        rw [t1, t2]
        have tE := And.intro (@upd_upd AV) <| And.intro (@upd_upd (Option Blk)) <| And.intro Cf.cells.eq_1 <| And.intro Fs.cells.eq_1 <| And.intro frRows_len <| And.intro Fr.cells.eq_1 <| And.intro hrow <| And.intro c0 <| And.intro c1 <| And.intro r1 <| And.intro r2 <| And.intro m1 <| And.intro m2 <| And.intro m3 <| And.intro m4 <| And.intro m5 <| And.intro m6 <| And.intro m7 <| And.intro m8 <| And.intro ty3 <| And.intro ty4 <| And.intro ty5 <| And.intro ty23 <| And.intro ty24 <| And.intro ty26 <| And.intro ty34 <| And.intro ty35 <| And.intro ty37 <| Try.results22; repeat' first | ((with_reducible first | apply w_seq | apply w_region | apply wl_nil | apply wr_nil | apply wr_nilA | apply wr_nilE | apply go_normal | apply go_ret | apply go_exit | apply blk_normal | apply blk_ret | apply blk_here | apply w_block | apply w_skip | apply w_exit | apply w_label)) | ((with_reducible apply w_live (lvAt [[0, 1, 2, 3, 4], [2, 3, 4, 5, 6, 10], [10], [2, 3, 4, 5, 6, 10], [10], [2, 3, 4, 5, 6, 10], [10], [2, 3, 4, 5, 6, 10]])); (focus (simp only [lvAt_zero, lvAt_succ]; rfl)); exact zLv) | ((with_reducible first | apply wz (tok Try.prog) | apply wr_z (tok Try.prog)); exact zZ; decide) | ((with_reducible first | apply wzg (tok Try.prog) | apply wr_zg (tok Try.prog)); exact zU; exact zL; exact zU; exact zZ; decide) | ((with_reducible first | apply w_alloc (tok Try.prog)); exact zT; decide) | ((with_reducible first | apply wcall' | apply wr_call); exact zV; exact zVs; exact zAs; (focus (with_unfolding_all first | exact h37 | exact h50 | exact h59 | exact h61 | exact h60)); decide) | ((with_reducible first | apply wcallg' | apply wr_callg); exact zU; exact zL; exact zU; exact zV; exact zVs; exact zAs; (focus (with_unfolding_all first | exact h37 | exact h50 | exact h59 | exact h61 | exact h60)); decide) | ((with_reducible first | apply w_iff'); exact zV; exact zU) | ((with_reducible first | apply fm_nil | apply fm_cons)) | ((with_reducible apply m_next); exact zU) | ((with_reducible apply m_nil0); exact zU) | ((with_reducible first | apply m_v (tok Try.prog)); exact zU; exact zZ; decide) | ((with_reducible first | apply m_chg0); exact zU; (focus ((with_reducible apply c_store (tok Try.prog)); exact zV; exact zV; exact zS))) | ((with_reducible first | apply m_call); exact zU; exact zV; exact zVs; exact zAs; (focus (with_unfolding_all first | exact h37 | exact h50 | exact h59 | exact h61 | exact h60)); decide) | ((with_reducible apply w_drawN (id := 7) [7] [([7], [0, 1, 2, 3, 4, 5, 6, 7, 8])] mixed); (focus (decide +kernel))) | ((with_reducible apply w_ret); (repeat (with_reducible first | apply go_ret | apply blk_ret)); (with_reducible first | apply donef_ret (tok Try.prog) | apply doneA_ret (tok Try.prog)); exact zT; exact zD) | fail
        all_goals try clear tE
        · exact .pur (tup_pur (fsa_pur ⟨f.l.set a (loadV c page k u), f.h⟩) (.int _ _))
        · exact tup_pur (fsa_pur ⟨f.l.set a (loadV c page k u), f.h⟩) (.int _ _)
        · rfl
      · have m8 : (fidx (isAt page) f.l 0 != (a : Int)) = true := by simp [hta]
        have hEu : loadE c f a page cl u = 2 := by rw [loadE, if_pos (by exact .inr (.inr (.inr (.inr (.inr (.inr ⟨ht, hta⟩))))))]
        obtain ⟨t1, t2⟩ := turn_no (E := (fun u => loadE c f a page cl u)) (fun u => loadV c page cl u) hok hu hEu (by decide)
        rw [t1, t2]
        have tE := And.intro (@upd_upd AV) <| And.intro (@upd_upd (Option Blk)) <| And.intro Cf.cells.eq_1 <| And.intro Fs.cells.eq_1 <| And.intro frRows_len <| And.intro hrow <| And.intro c0 <| And.intro c1 <| And.intro r1 <| And.intro r2 <| And.intro m1 <| And.intro m2 <| And.intro m3 <| And.intro m4 <| And.intro m5 <| And.intro m6 <| And.intro m7 <| And.intro m8 <| And.intro hEu <| And.intro ty3 <| And.intro ty4 <| And.intro ty5 <| And.intro ty23 <| And.intro ty24 <| And.intro ty26 <| And.intro ty34 <| And.intro ty35 <| And.intro ty37 <| Try.results22; repeat' first | ((with_reducible first | apply w_seq | apply w_region | apply wl_nil | apply wr_nil | apply wr_nilA | apply wr_nilE | apply go_normal | apply go_ret | apply go_exit | apply blk_normal | apply blk_ret | apply blk_here | apply w_block | apply w_skip | apply w_exit | apply w_label)) | ((with_reducible first | apply wz (tok Try.prog) | apply wr_z (tok Try.prog)); exact zZ; decide) | ((with_reducible first | apply wzg (tok Try.prog) | apply wr_zg (tok Try.prog)); exact zU; exact zL; exact zU; exact zZ; decide) | ((with_reducible first | apply w_alloc (tok Try.prog)); exact zT; decide) | ((with_reducible first | apply w_store (tok Try.prog)); exact zV; exact zV; exact zS) | ((with_reducible first | apply wcall' | apply wr_call); exact zV; exact zVs; exact zAs; (focus (with_unfolding_all first | exact h37 | exact h50 | exact h59)); decide) | ((with_reducible first | apply wcallg' | apply wr_callg); exact zU; exact zL; exact zU; exact zV; exact zVs; exact zAs; (focus (with_unfolding_all first | exact h37 | exact h50 | exact h59)); decide) | ((with_reducible first | apply w_ift'); exact zV; exact zU) | ((with_reducible first | apply w_iff'); exact zV; exact zU) | ((with_reducible apply w_ret); (repeat (with_reducible first | apply go_ret | apply blk_ret)); (with_reducible first | apply donef_ret (tok Try.prog) | apply doneA_ret (tok Try.prog)); exact zT; exact zD) | fail
        all_goals try clear tE
        · exact tz _ _
        · exact tup_pur (fsa_pur ⟨[], 0⟩) (.int _ _)
        · rfl
    · have m7 : (fidx (isAt page) f.l 0 ≥ 0) = False := eq_false ht
      obtain ⟨k, rfl⟩ : ∃ k : Nat, cl = k := ⟨cl.toNat, by omega⟩
      have h61 := pf61 c page k c.cl.toNat u cl3 (by omega) (by omega)
      have h60 := pf60 f a (loadV c page k u) ha hl hd (by simp [loadV]) (by simp [loadV]; omega)
      have hEu : loadE c f a page k u = 0 := by rw [loadE, if_neg (by rintro (h | h | h | h | h | h | ⟨h, h'⟩) <;> first | exact hc0 h | exact hc1 h | exact ht h | omega)]
      obtain ⟨t1, t2⟩ := turn_yes (E := fun u => loadE c f a page k u) (fun u => loadV c page k u) hok hu hEu
      rw [t1, t2]
      have tE := And.intro (@upd_upd AV) <| And.intro (@upd_upd (Option Blk)) <| And.intro Cf.cells.eq_1 <| And.intro Fs.cells.eq_1 <| And.intro frRows_len <| And.intro Fr.cells.eq_1 <| And.intro hrow <| And.intro c0 <| And.intro c1 <| And.intro r1 <| And.intro r2 <| And.intro m1 <| And.intro m2 <| And.intro m3 <| And.intro m4 <| And.intro m5 <| And.intro m6 <| And.intro m7 <| And.intro ty3 <| And.intro ty4 <| And.intro ty5 <| And.intro ty23 <| And.intro ty24 <| And.intro ty26 <| And.intro ty34 <| And.intro ty35 <| And.intro ty37 <| Try.results22; repeat' first | ((with_reducible first | apply w_seq | apply w_region | apply wl_nil | apply wr_nil | apply wr_nilA | apply wr_nilE | apply go_normal | apply go_ret | apply go_exit | apply blk_normal | apply blk_ret | apply blk_here | apply w_block | apply w_skip | apply w_exit | apply w_label)) | ((with_reducible apply w_live (lvAt [[0, 1, 2, 3, 4], [2, 3, 4, 5, 6, 10], [10], [2, 3, 4, 5, 6, 10], [10], [2, 3, 4, 5, 6, 10], [10], [2, 3, 4, 5, 6, 10]])); (focus (simp only [lvAt_zero, lvAt_succ]; rfl)); exact zLv) | ((with_reducible first | apply wz (tok Try.prog) | apply wr_z (tok Try.prog)); exact zZ; decide) | ((with_reducible first | apply wzg (tok Try.prog) | apply wr_zg (tok Try.prog)); exact zU; exact zL; exact zU; exact zZ; decide) | ((with_reducible first | apply wskip' | apply wr_skip); exact zU; exact zL; exact zU; decide) | ((with_reducible first | apply w_alloc (tok Try.prog)); exact zT; decide) | ((with_reducible first | apply wcall' | apply wr_call); exact zV; exact zVs; exact zAs; (focus (with_unfolding_all first | exact h37 | exact h50 | exact h59 | exact h61 | exact h60)); decide) | ((with_reducible first | apply wcallg' | apply wr_callg); exact zU; exact zL; exact zU; exact zV; exact zVs; exact zAs; (focus (with_unfolding_all first | exact h37 | exact h50 | exact h59 | exact h61 | exact h60)); decide) | ((with_reducible first | apply w_iff'); exact zV; exact zU) | ((with_reducible first | apply fm_nil | apply fm_cons)) | ((with_reducible apply m_next); exact zU) | ((with_reducible apply m_nil0); exact zU) | ((with_reducible first | apply m_v (tok Try.prog)); exact zU; exact zZ; decide) | ((with_reducible first | apply m_chg0); exact zU; (focus ((with_reducible apply c_store (tok Try.prog)); exact zV; exact zV; exact zS))) | ((with_reducible first | apply m_call); exact zU; exact zV; exact zVs; exact zAs; (focus (with_unfolding_all first | exact h37 | exact h50 | exact h59 | exact h61 | exact h60)); decide) | ((with_reducible apply w_drawN (id := 7) [7] [([7], [0, 1, 2, 3, 4, 5, 6, 7, 8])] mixed); (focus (decide +kernel))) | ((with_reducible apply w_ret); (repeat (with_reducible first | apply go_ret | apply blk_ret)); (with_reducible first | apply donef_ret (tok Try.prog) | apply doneA_ret (tok Try.prog)); exact zT; exact zD) | fail
      all_goals try clear tE
      · exact .pur (tup_pur (fsa_pur ⟨f.l.set a (loadV c page k u), f.h⟩) (.int _ _))
      · exact tup_pur (fsa_pur ⟨f.l.set a (loadV c page k u), f.h⟩) (.int _ _)
      · rfl
end Go.Proofs.Ytlmighkbeacjnaa
