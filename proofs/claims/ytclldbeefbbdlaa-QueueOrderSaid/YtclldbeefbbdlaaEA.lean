/- QueueOrder's loop. -/
import Derived.Test.YtclldbeefbbdlaaE9
open Go Go.Lg
set_option linter.unusedSimpArgs false
set_option linter.unusedVariables false
set_option maxHeartbeats 4000000
set_option maxRecDepth 20000
namespace Go.Proofs.Ytclldbeefbbdlaa
theorem qok_drop {c : Cf} {l : List Un} (h : qok c l = true) (i : Nat) : qok c (l.drop i) = true := by
  simp only [qok, Bool.and_eq_true, decide_eq_true_eq, List.all_eq_true] at h ⊢
  refine ⟨⟨h.1.1, ?_⟩, fun u hu => h.2 u (List.mem_of_mem_drop hu)⟩
  have := h.1.2
  rw [List.length_drop]; omega
theorem qok_app {c : Cf} {q m : List Un} (h : qok c q = true) (ha : m.all (mayU c) = true) (hl : (q.length : Int) + m.length ≤ c.q) : qok c (q ++ m) = true := by
  simp only [qok, Bool.and_eq_true, decide_eq_true_eq, List.all_eq_true] at h ha ⊢
  refine ⟨⟨h.1.1, ?_⟩, fun u hu => ?_⟩
  · rw [List.length_append]; omega
  · rcases List.mem_append.1 hu with h' | h'
    · exact h.2 u h'
    · exact ha u h'
theorem lastP_head (u : Un) (l : List Un) : 1 ≤ lastP u.p (u :: l) := by
  simp only [lastP]
  split <;> simp_all
theorem pf9_ok (c : Cf) (q m : List Un) (hq : great q = false) (hm : great m = false) (h : putE c q m = 0) : PF Try.prog 9 [.agg c.cells, .view (unRows q), .view (unRows m)] (fun r => r = .bool true) := by
  obtain ⟨q1, q2⟩ := great_no hq
  obtain ⟨m1, m2⟩ := great_no hm
  have pp := pf29 c q m (by omega) (by omega) (fun u hu => Nat.le_trans (q2 u hu) (by decide)) (fun u hu => Nat.le_trans (m2 u hu) (by decide))
  have h1 : put1 c q m = true ∧ (q.length : Int) + m.length ≤ c.q := by
    by_cases h1 : put1 c q m = true
    · by_cases h2 : (q.length : Int) + m.length ≤ c.q
      · exact ⟨h1, h2⟩
      · simp [putE, h1, h2] at h
    · simp [putE, h1] at h
  rw [show putU c q m = q ++ m from if_pos h1, h] at pp
  have hk : qok c q = true := by have := h1.1; simp only [put1, Bool.and_eq_true] at this; exact this.1
  have ha : m.all (mayU c) = true := by have := h1.1; simp only [put1, Bool.and_eq_true] at this; exact this.2
  have hfq : (unRows q).flatten.length = q.length * 4 := unFlat_len q
  have hfm : (unRows m).flatten.length = m.length * 4 := unFlat_len m
  have hrq := unRows_row q
  have hrm := unRows_row m
  have sca : ∀ l : List Un, (unRows l).flatten.all scalA = true := fun l => by
    rw [List.all_eq_true]
    intro x hx
    obtain ⟨r, hr, hx⟩ := List.mem_flatten.1 hx
    obtain ⟨u, _, rfl⟩ := List.mem_map.1 hr
    simp only [Un.cells, List.mem_cons, List.not_mem_nil, or_false] at hx
    rcases hx with rfl | rfl | rfl | rfl <;> rfl
  have hsm := sca m
  have hkl : qok c (q ++ m) = true := qok_app hk ha h1.2
  have hll : (q ++ m).length ≤ 80 := by rw [List.length_append]; omega
  have hdl : ∀ u, u ∈ q ++ m → u.d.length ≤ 1000000 := fun u hu => by
    rcases List.mem_append.1 hu with h' | h'
    · exact Nat.le_trans (q2 u h') (by decide)
    · exact Nat.le_trans (m2 u h') (by decide)
  refine pf_of_w0 Try.func9 (c := _) rfl rfl (Nat.le_of_ble_eq_true rfl) (args_cll c q m) ?_
  rw [show Try.f9.ntmps = 135 from rfl]
  by_cases hq0 : q = []
  · subst hq0
    by_cases hm0 : m = []
    · subst hm0
      have tE := And.intro (@upd_upd AV) <| And.intro (@upd_upd (Option Blk)) <| And.intro Cf.cells.eq_1 <| And.intro hq <| And.intro unRows_len <| And.intro ty3 <| And.intro ty4 <| And.intro ty5 <| And.intro ty23 <| And.intro ty25 <| And.intro ty55 <| And.intro ty56 <| And.intro ty58 <| Try.results9; repeat' first | ((with_reducible first | apply w_seq | apply w_region | apply wl_nil | apply wr_nil | apply wr_nilA | apply wr_nilE | apply go_normal | apply go_ret | apply go_exit | apply blk_normal | apply blk_ret | apply blk_here | apply w_block | apply w_skip | apply w_exit)) | ((with_reducible first | apply wz (tok Try.prog) | apply wr_z (tok Try.prog)); exact zZ; decide) | ((with_reducible first | apply wzg (tok Try.prog) | apply wr_zg (tok Try.prog)); exact zU; exact zL; exact zU; exact zZ; decide) | ((with_reducible first | apply wcall' | apply wr_call); exact zV; exact zVs; exact zAs; (focus (with_unfolding_all first | exact pf32 | exact pf34 [] | exact pp)); decide) | ((with_reducible first | apply wcallg' | apply wr_callg); exact zU; exact zL; exact zU; exact zV; exact zVs; exact zAs; (focus (with_unfolding_all first | exact pf32 | exact pf34 [] | exact pp)); decide) | ((with_reducible first | apply wp | apply wr_p); (focus (first | ((with_reducible first | apply p_slv (tok Try.prog)); exact zT; exact zU; exact zT; exact zV; exact zN; exact zN; (focus (first | exact zU | exact zB)); (focus (first | exact zU | exact zB)); (focus (first | exact zU | assumption))) | ((with_reducible first | apply p_slo (tok Try.prog)); exact zT; exact zU; exact zT; exact zV; exact zN; exact zN; (focus (first | exact zU | exact zB)); (focus (first | exact zU | exact zB)); (focus (first | exact zU | assumption))) | ((with_reducible first | apply p_nil (tok Try.prog) | apply p_nnil (tok Try.prog)); exact zT; exact zV; exact zU) | ((with_reducible first | apply p_bs0 (tok Try.prog)); exact zT; exact zU; exact zT) | ((with_reducible first | apply p_ap0 (tok Try.prog)); exact zT; exact zU; exact zT; exact zT; exact zU; exact zA; exact zV; (focus (first | exact Or.inl rfl | exact Or.inr rfl))) | ((with_reducible first | apply p_bytes (tok Try.prog)); exact zT; exact zU; exact zT; exact zU; exact zT; exact zU; exact zV))); decide) | ((with_reducible first | apply w_iff'); exact zV; exact zU)
      all_goals try clear tE
      refine w_cutS [(3, .vptr c.cells), (7, .bool true), (8, .view (unRows [])), (10, .empty), (11, .int .i64 0)] [] [] ?_ ?_
      · (have tu0 : Pur _ := unRows_pur []; have tE := And.intro (@upd_upd AV) <| And.intro (@upd_upd (Option Blk)) <| Cf.cells.eq_1; exact kcanS [])
      simp only [St.ofS, List.length_nil]
      have p27 := pf27_nil c hk
      have z0 : ((0 : Int) < 0) = False := eq_false (by decide)
      refine w_loopS (S := Unit) (fun _ => [(3, .vptr c.cells), (7, .bool true), (8, .view (unRows [])), (10, .empty), (11, .int .i64 0)]) (fun _ => []) [] (fun _ => True) (fun _ => 0) () ?_ trivial ?_
      · (have tu0 : Pur _ := unRows_pur []; have tE := And.intro (@upd_upd AV) <| And.intro (@upd_upd (Option Blk)) <| Cf.cells.eq_1; exact kcanS [])
      rintro _ _
      simp only [St.ofS, List.length_nil]
      have tE := And.intro (@upd_upd AV) <| And.intro (@upd_upd (Option Blk)) <| And.intro Cf.cells.eq_1 <| And.intro z0 <| And.intro unRows_len <| And.intro ty3 <| And.intro ty4 <| And.intro ty5 <| And.intro ty23 <| And.intro ty25 <| And.intro ty55 <| And.intro ty56 <| And.intro ty58 <| Try.results9; repeat' first | ((with_reducible first | apply w_seq | apply w_region | apply wl_nil | apply wr_nil | apply wr_nilA | apply wr_nilE | apply go_normal | apply go_ret | apply go_exit | apply blk_normal | apply blk_ret | apply blk_here | apply w_block | apply w_skip | apply w_exit)) | ((with_reducible first | apply wz (tok Try.prog) | apply wr_z (tok Try.prog)); exact zZ; decide) | ((with_reducible first | apply wzg (tok Try.prog) | apply wr_zg (tok Try.prog)); exact zU; exact zL; exact zU; exact zZ; decide) | ((with_reducible first | apply w_alloc (tok Try.prog)); exact zT; decide) | ((with_reducible first | apply w_store (tok Try.prog)); exact zV; exact zV; exact zS) | ((with_reducible first | apply wcall' | apply wr_call); exact zV; exact zVs; exact zAs; (focus (with_unfolding_all first | exact p27)); decide) | ((with_reducible first | apply w_iff'); exact zV; exact zU) | ((with_reducible apply w_ret); (repeat (with_reducible first | apply go_ret | apply blk_ret)); (with_reducible apply done_ret (tok Try.prog)); exact zT; exact zD; exact zX)
      all_goals try clear tE
      simp [tup]
    · have hmn : 0 < m.length := List.length_pos_iff.2 hm0
      have tE := And.intro (@upd_upd AV) <| And.intro (@upd_upd (Option Blk)) <| And.intro Cf.cells.eq_1 <| And.intro hq <| And.intro hm <| And.intro unRows_len <| And.intro hfm <| And.intro ty3 <| And.intro ty4 <| And.intro ty5 <| And.intro ty23 <| And.intro ty25 <| And.intro ty55 <| And.intro ty56 <| And.intro ty58 <| Try.results9; repeat' first | ((with_reducible first | apply w_seq | apply w_region | apply wl_nil | apply wr_nil | apply wr_nilA | apply wr_nilE | apply go_normal | apply go_ret | apply go_exit | apply blk_normal | apply blk_ret | apply blk_here | apply w_block | apply w_skip | apply w_exit)) | ((with_reducible first | apply wz (tok Try.prog) | apply wr_z (tok Try.prog)); exact zZ; decide) | ((with_reducible first | apply wzg (tok Try.prog) | apply wr_zg (tok Try.prog)); exact zU; exact zL; exact zU; exact zZ; decide) | ((with_reducible first | apply wcall' | apply wr_call); exact zV; exact zVs; exact zAs; (focus (with_unfolding_all first | exact pf32 | exact pf34 [] | exact pf34 m | exact pp)); decide) | ((with_reducible first | apply wcallg' | apply wr_callg); exact zU; exact zL; exact zU; exact zV; exact zVs; exact zAs; (focus (with_unfolding_all first | exact pf32 | exact pf34 [] | exact pf34 m | exact pp)); decide) | ((with_reducible first | apply w_ap | apply wr_ap); (focus (first | (intro _ ho _ hr _; (with_reducible apply ap_new (tok Try.prog) ho (hr := hr)); exact zT; exact zU; exact zT; exact zT; exact zU; exact zA; exact zV; exact zK; exact zM; exact zK; exact zK; decide) | (intro _ ho _ hr _; (with_reducible apply ap_own (tok Try.prog) ho (hr := hr)); exact zT; exact zU; exact zT; exact zT; exact zU; exact zV; exact zV; exact zH; exact zKo; exact zM; (focus (first | rfl | assumption)); exact zKo; exact zKo; decide))); decide) | ((with_reducible first | apply wp | apply wr_p); (focus (first | ((with_reducible first | apply p_slv (tok Try.prog)); exact zT; exact zU; exact zT; exact zV; exact zN; exact zN; (focus (first | exact zU | exact zB)); (focus (first | exact zU | exact zB)); (focus (first | exact zU | assumption))) | ((with_reducible first | apply p_slo (tok Try.prog)); exact zT; exact zU; exact zT; exact zV; exact zN; exact zN; (focus (first | exact zU | exact zB)); (focus (first | exact zU | exact zB)); (focus (first | exact zU | assumption))) | ((with_reducible first | apply p_nil (tok Try.prog) | apply p_nnil (tok Try.prog)); exact zT; exact zV; exact zU) | ((with_reducible first | apply p_bs0 (tok Try.prog)); exact zT; exact zU; exact zT) | ((with_reducible first | apply p_ap0 (tok Try.prog)); exact zT; exact zU; exact zT; exact zT; exact zU; exact zA; exact zV; (focus (first | exact Or.inl rfl | exact Or.inr rfl))) | ((with_reducible first | apply p_bytes (tok Try.prog)); exact zT; exact zU; exact zT; exact zU; exact zT; exact zU; exact zV))); decide) | ((with_reducible first | apply w_iff'); exact zV; exact zU)
      all_goals try clear tE
      refine W.ghost (g_freeze (d := 10) (id := 0) (off := 0) (len := m.length) (cap := none) (sz := 4) (cs := (unRows m).flatten) (e := 58) rfl rfl (by rw [hfm]; omega)) ?_
      have hch : chunk 4 (m.length) (((unRows m).flatten).drop 0) = unRows ([] ++ m) := by
        have := chunk_flatten (rows := unRows ([] ++ m)) (sz := 4) (unRows_row _)
        rw [unRows_len] at this
        simpa [unRows] using this
      rw [hch]
      refine w_cutS [(3, .vptr c.cells), (7, .bool true), (8, .view (unRows ([] ++ m))), (10, .view (unRows ([] ++ m))), (11, .int .i64 0)] [] [] ?_ ?_
      · (have tu0 : Pur _ := unRows_pur ([] ++ m); have tE := And.intro (@upd_upd AV) <| And.intro (@upd_upd (Option Blk)) <| And.intro Cf.cells.eq_1 <| (@List.append_nil Un); exact kcanS [])
      simp only [St.ofS, List.length_nil]
      have kl : qok c ([] ++ m) = true := hkl
      have ll : ([] ++ m).length ≤ 80 := hll
      have dl : ∀ u, u ∈ [] ++ m → u.d.length ≤ 1000000 := hdl
      generalize [] ++ m = l at kl ll dl
      refine w_loopS (S := Nat) (fun i => [(3, .vptr c.cells), (7, .bool true), (8, .view (unRows (l.drop i))), (10, .view (unRows l)), (11, .int .i64 (i : Int))]) (fun _ => []) [] (fun i => i ≤ l.length) (fun i => l.length - i) 0 ?_ (Nat.zero_le _) ?_
      · have d0 : l.drop 0 = l := rfl
        (have tu0 : Pur _ := unRows_pur l; have tE := And.intro (@upd_upd AV) <| And.intro (@upd_upd (Option Blk)) <| And.intro Cf.cells.eq_1 <| d0; exact kcanS [])
      rintro i hi
      simp only [St.ofS, List.length_nil]
      by_cases e : i < l.length
      · obtain ⟨u, hu⟩ : ∃ u, l[i]? = some u := ⟨l[i], List.getElem?_eq_getElem e⟩
        have hdr : l.drop i = u :: l.drop (i + 1) := by
          rw [List.drop_eq_getElem_cons e]
          rw [List.getElem?_eq_getElem e] at hu
          cases hu; rfl
        have hkd := qok_drop kl i
        have hlen : (l.drop i).length ≤ 1000000 := by rw [List.length_drop]; omega
        have p30 := pf30 c (l.drop i) u.p hlen
        have hL := lastP_le u.p (l.drop i)
        rw [List.length_drop] at hL
        have hdd : ∀ x, x ∈ l.drop i → x.d.length ≤ 1000000 := fun x hx => dl x (List.mem_of_mem_drop hx)
        rw [hdr] at hkd hlen p30 hL hdd ⊢
        have hH := lastP_head u (l.drop (i + 1))
        have p27 := pf27_ok c u (l.drop (i + 1)) hlen hdd hkd
        rw [show ahI c (u :: l.drop (i + 1)) u.p = (lastP u.p (u :: l.drop (i + 1)) : Int) from if_pos hkd, show ahE c (u :: l.drop (i + 1)) u.p = 0 by unfold ahE; rw [if_pos hkd, if_neg (by omega)]] at p30
        generalize hk0 : lastP u.p (u :: l.drop (i + 1)) = k at p30 hL hH
        have i1 : ((i : Int) < (l.length : Int)) = True := eq_true (by omega)
        have i0 : (0 ≤ (i : Int)) = True := eq_true (by omega)
        have hr := un_row hu
        have w1 : IntKind.i64.wrap ((i : Int) + 1) = ((i + 1 : Nat) : Int) := by rw [wrap64 (by omega) (by omega)]; rfl
        have w2 : IntKind.i64.wrap ((l.length : Int) - (i : Int)) = (l.length : Int) - (i : Int) := wrap64 (by omega) (by omega)
        have k1 : ((k : Int) < 1) = False := eq_false (by omega)
        have k2 : ((k : Int) > (l.length : Int) - (i : Int)) = False := eq_false (by omega)
        have hb : decide (u = u) = true := by simp
        have tE := And.intro (@upd_upd AV) <| And.intro (@upd_upd (Option Blk)) <| And.intro Cf.cells.eq_1 <| And.intro Un.cells.eq_1 <| And.intro i1 <| And.intro i0 <| And.intro hr <| And.intro w1 <| And.intro w2 <| And.intro k1 <| And.intro k2 <| And.intro hb <| And.intro unRows_len <| And.intro ty3 <| And.intro ty4 <| And.intro ty5 <| And.intro ty23 <| And.intro ty25 <| And.intro ty55 <| And.intro ty56 <| And.intro ty58 <| Try.results9; repeat' first | ((with_reducible first | apply w_seq | apply w_region | apply wl_nil | apply wr_nil | apply wr_nilA | apply wr_nilE | apply go_normal | apply go_ret | apply go_exit | apply blk_normal | apply blk_ret | apply blk_here | apply w_block | apply w_skip | apply w_exit)) | ((with_reducible apply w_live (lvAt [[0, 1, 2], [1, 2, 3], [1, 2, 3, 7], [7], [1, 2, 3, 7], [1, 2, 3, 7, 8, 9], [1, 2, 3, 7, 8, 9], [1, 2, 3, 7, 8], [3, 7, 8, 10], [3, 7, 8, 10, 11], [3, 7, 8, 10, 11], [3, 7, 8, 10, 11], [3, 7, 8, 10, 11, 12, 13], [3, 7, 10, 11, 12, 13, 14, 15, 16], [], [3, 7, 10, 11, 14], [3, 7, 8], [7, 8, 19]])); (focus (simp only [lvAt_zero, lvAt_succ]; rfl)); exact zLv) | ((with_reducible first | apply wz (tok Try.prog) | apply wr_z (tok Try.prog)); exact zZ; decide) | ((with_reducible first | apply wzg (tok Try.prog) | apply wr_zg (tok Try.prog)); exact zU; exact zL; exact zU; exact zZ; decide) | ((with_reducible first | apply w_alloc (tok Try.prog)); exact zT; decide) | ((with_reducible first | apply w_store (tok Try.prog)); exact zV; exact zV; exact zS) | ((with_reducible first | apply wcall' | apply wr_call); exact zV; exact zVs; exact zAs; (focus (with_unfolding_all first | exact p27 | exact p30 | exact pf35 u u)); decide) | ((with_reducible first | apply wcallg' | apply wr_callg); exact zU; exact zL; exact zU; exact zV; exact zVs; exact zAs; (focus (with_unfolding_all first | exact p27 | exact p30 | exact pf35 u u)); decide) | ((with_reducible first | apply w_ift'); exact zV; exact zU) | ((with_reducible first | apply w_iff'); exact zV; exact zU) | ((with_reducible first | apply w_draw0 mixed); (focus (decide +kernel)))
        all_goals try clear tE
        refine ⟨i + 1, by omega, by omega, ?_⟩
        (have tu0 : Pur _ := unRows_pur l; have tu1 : Pur _ := unRows_pur (l.drop (i + 1)); have tE := And.intro (@upd_upd AV) <| And.intro (@upd_upd (Option Blk)) <| Cf.cells.eq_1; exact kcanS [])
      · have i1 : ((i : Int) < (l.length : Int)) = False := eq_false (by omega)
        have hdr : l.drop i = [] := List.drop_of_length_le (by omega)
        have kn : qok c [] = true := by have := qok_drop kl i; rw [hdr] at this; exact this
        rw [hdr]
        have p27 := pf27_nil c kn
        have tE := And.intro (@upd_upd AV) <| And.intro (@upd_upd (Option Blk)) <| And.intro Cf.cells.eq_1 <| And.intro i1 <| And.intro unRows_len <| And.intro ty3 <| And.intro ty4 <| And.intro ty5 <| And.intro ty23 <| And.intro ty25 <| And.intro ty55 <| And.intro ty56 <| And.intro ty58 <| Try.results9; repeat' first | ((with_reducible first | apply w_seq | apply w_region | apply wl_nil | apply wr_nil | apply wr_nilA | apply wr_nilE | apply go_normal | apply go_ret | apply go_exit | apply blk_normal | apply blk_ret | apply blk_here | apply w_block | apply w_skip | apply w_exit)) | ((with_reducible first | apply wz (tok Try.prog) | apply wr_z (tok Try.prog)); exact zZ; decide) | ((with_reducible first | apply wzg (tok Try.prog) | apply wr_zg (tok Try.prog)); exact zU; exact zL; exact zU; exact zZ; decide) | ((with_reducible first | apply w_alloc (tok Try.prog)); exact zT; decide) | ((with_reducible first | apply w_store (tok Try.prog)); exact zV; exact zV; exact zS) | ((with_reducible first | apply wcall' | apply wr_call); exact zV; exact zVs; exact zAs; (focus (with_unfolding_all first | exact p27)); decide) | ((with_reducible first | apply w_iff'); exact zV; exact zU) | ((with_reducible apply w_ret); (repeat (with_reducible first | apply go_ret | apply blk_ret)); (with_reducible apply done_ret (tok Try.prog)); exact zT; exact zD; exact zX)
        all_goals try clear tE
        simp [tup]
  · have hqn : 0 < q.length := List.length_pos_iff.2 hq0
    by_cases hm0 : m = []
    · subst hm0
      have tE := And.intro (@upd_upd AV) <| And.intro (@upd_upd (Option Blk)) <| And.intro Cf.cells.eq_1 <| And.intro hq <| And.intro hm <| And.intro unRows_len <| And.intro hfq <| And.intro ty3 <| And.intro ty4 <| And.intro ty5 <| And.intro ty23 <| And.intro ty25 <| And.intro ty55 <| And.intro ty56 <| And.intro ty58 <| Try.results9; repeat' first | ((with_reducible first | apply w_seq | apply w_region | apply wl_nil | apply wr_nil | apply wr_nilA | apply wr_nilE | apply go_normal | apply go_ret | apply go_exit | apply blk_normal | apply blk_ret | apply blk_here | apply w_block | apply w_skip | apply w_exit)) | ((with_reducible first | apply wz (tok Try.prog) | apply wr_z (tok Try.prog)); exact zZ; decide) | ((with_reducible first | apply wzg (tok Try.prog) | apply wr_zg (tok Try.prog)); exact zU; exact zL; exact zU; exact zZ; decide) | ((with_reducible first | apply wcall' | apply wr_call); exact zV; exact zVs; exact zAs; (focus (with_unfolding_all first | exact pf32 | exact pf34 q | exact pf34 [] | exact pp)); decide) | ((with_reducible first | apply wcallg' | apply wr_callg); exact zU; exact zL; exact zU; exact zV; exact zVs; exact zAs; (focus (with_unfolding_all first | exact pf32 | exact pf34 q | exact pf34 [] | exact pp)); decide) | ((with_reducible first | apply w_ap | apply wr_ap); (focus (first | (intro _ ho _ hr _; (with_reducible apply ap_new (tok Try.prog) ho (hr := hr)); exact zT; exact zU; exact zT; exact zT; exact zU; exact zA; exact zV; exact zK; exact zM; exact zK; exact zK; decide) | (intro _ ho _ hr _; (with_reducible apply ap_own (tok Try.prog) ho (hr := hr)); exact zT; exact zU; exact zT; exact zT; exact zU; exact zV; exact zV; exact zH; exact zKo; exact zM; (focus (first | rfl | assumption)); exact zKo; exact zKo; decide))); decide) | ((with_reducible first | apply wp | apply wr_p); (focus (first | ((with_reducible first | apply p_slv (tok Try.prog)); exact zT; exact zU; exact zT; exact zV; exact zN; exact zN; (focus (first | exact zU | exact zB)); (focus (first | exact zU | exact zB)); (focus (first | exact zU | assumption))) | ((with_reducible first | apply p_slo (tok Try.prog)); exact zT; exact zU; exact zT; exact zV; exact zN; exact zN; (focus (first | exact zU | exact zB)); (focus (first | exact zU | exact zB)); (focus (first | exact zU | assumption))) | ((with_reducible first | apply p_nil (tok Try.prog) | apply p_nnil (tok Try.prog)); exact zT; exact zV; exact zU) | ((with_reducible first | apply p_bs0 (tok Try.prog)); exact zT; exact zU; exact zT) | ((with_reducible first | apply p_ap0 (tok Try.prog)); exact zT; exact zU; exact zT; exact zT; exact zU; exact zA; exact zV; (focus (first | exact Or.inl rfl | exact Or.inr rfl))) | ((with_reducible first | apply p_bytes (tok Try.prog)); exact zT; exact zU; exact zT; exact zU; exact zT; exact zU; exact zV))); decide) | ((with_reducible first | apply w_iff'); exact zV; exact zU)
      all_goals try clear tE
      refine W.ghost (g_freeze (d := 10) (id := 1) (off := 0) (len := q.length) (cap := none) (sz := 4) (cs := (unRows q).flatten ++ (unRows []).flatten) (e := 58) rfl rfl (by rw [List.length_append, hfq]; omega)) ?_
      have hch : chunk 4 (q.length) (((unRows q).flatten ++ (unRows []).flatten).drop 0) = unRows (q ++ []) := by
        have := chunk_flatten (rows := unRows (q ++ [])) (sz := 4) (unRows_row _)
        rw [unRows_len] at this
        simpa [unRows] using this
      rw [hch]
      refine w_cutS [(3, .vptr c.cells), (7, .bool true), (8, .view (unRows (q))), (10, .view (unRows (q))), (11, .int .i64 0)] [] [] ?_ ?_
      · (have tu0 : Pur _ := unRows_pur (q); have tE := And.intro (@upd_upd AV) <| And.intro (@upd_upd (Option Blk)) <| And.intro Cf.cells.eq_1 <| (@List.append_nil Un); exact kcanS [])
      simp only [St.ofS, List.length_nil]
      have kl : qok c (q) = true := hk
      have ll : (q).length ≤ 80 := by omega
      have dl : ∀ u, u ∈ q → u.d.length ≤ 1000000 := fun u hu => Nat.le_trans (q2 u hu) (by decide)
      generalize q = l at kl ll dl
      refine w_loopS (S := Nat) (fun i => [(3, .vptr c.cells), (7, .bool true), (8, .view (unRows (l.drop i))), (10, .view (unRows l)), (11, .int .i64 (i : Int))]) (fun _ => []) [] (fun i => i ≤ l.length) (fun i => l.length - i) 0 ?_ (Nat.zero_le _) ?_
      · have d0 : l.drop 0 = l := rfl
        (have tu0 : Pur _ := unRows_pur l; have tE := And.intro (@upd_upd AV) <| And.intro (@upd_upd (Option Blk)) <| And.intro Cf.cells.eq_1 <| d0; exact kcanS [])
      rintro i hi
      simp only [St.ofS, List.length_nil]
      by_cases e : i < l.length
      · obtain ⟨u, hu⟩ : ∃ u, l[i]? = some u := ⟨l[i], List.getElem?_eq_getElem e⟩
        have hdr : l.drop i = u :: l.drop (i + 1) := by
          rw [List.drop_eq_getElem_cons e]
          rw [List.getElem?_eq_getElem e] at hu
          cases hu; rfl
        have hkd := qok_drop kl i
        have hlen : (l.drop i).length ≤ 1000000 := by rw [List.length_drop]; omega
        have p30 := pf30 c (l.drop i) u.p hlen
        have hL := lastP_le u.p (l.drop i)
        rw [List.length_drop] at hL
        have hdd : ∀ x, x ∈ l.drop i → x.d.length ≤ 1000000 := fun x hx => dl x (List.mem_of_mem_drop hx)
        rw [hdr] at hkd hlen p30 hL hdd ⊢
        have hH := lastP_head u (l.drop (i + 1))
        have p27 := pf27_ok c u (l.drop (i + 1)) hlen hdd hkd
        rw [show ahI c (u :: l.drop (i + 1)) u.p = (lastP u.p (u :: l.drop (i + 1)) : Int) from if_pos hkd, show ahE c (u :: l.drop (i + 1)) u.p = 0 by unfold ahE; rw [if_pos hkd, if_neg (by omega)]] at p30
        generalize hk0 : lastP u.p (u :: l.drop (i + 1)) = k at p30 hL hH
        have i1 : ((i : Int) < (l.length : Int)) = True := eq_true (by omega)
        have i0 : (0 ≤ (i : Int)) = True := eq_true (by omega)
        have hr := un_row hu
        have w1 : IntKind.i64.wrap ((i : Int) + 1) = ((i + 1 : Nat) : Int) := by rw [wrap64 (by omega) (by omega)]; rfl
        have w2 : IntKind.i64.wrap ((l.length : Int) - (i : Int)) = (l.length : Int) - (i : Int) := wrap64 (by omega) (by omega)
        have k1 : ((k : Int) < 1) = False := eq_false (by omega)
        have k2 : ((k : Int) > (l.length : Int) - (i : Int)) = False := eq_false (by omega)
        have hb : decide (u = u) = true := by simp
        have tE := And.intro (@upd_upd AV) <| And.intro (@upd_upd (Option Blk)) <| And.intro Cf.cells.eq_1 <| And.intro Un.cells.eq_1 <| And.intro i1 <| And.intro i0 <| And.intro hr <| And.intro w1 <| And.intro w2 <| And.intro k1 <| And.intro k2 <| And.intro hb <| And.intro unRows_len <| And.intro ty3 <| And.intro ty4 <| And.intro ty5 <| And.intro ty23 <| And.intro ty25 <| And.intro ty55 <| And.intro ty56 <| And.intro ty58 <| Try.results9; repeat' first | ((with_reducible first | apply w_seq | apply w_region | apply wl_nil | apply wr_nil | apply wr_nilA | apply wr_nilE | apply go_normal | apply go_ret | apply go_exit | apply blk_normal | apply blk_ret | apply blk_here | apply w_block | apply w_skip | apply w_exit)) | ((with_reducible apply w_live (lvAt [[0, 1, 2], [1, 2, 3], [1, 2, 3, 7], [7], [1, 2, 3, 7], [1, 2, 3, 7, 8, 9], [1, 2, 3, 7, 8, 9], [1, 2, 3, 7, 8], [3, 7, 8, 10], [3, 7, 8, 10, 11], [3, 7, 8, 10, 11], [3, 7, 8, 10, 11], [3, 7, 8, 10, 11, 12, 13], [3, 7, 10, 11, 12, 13, 14, 15, 16], [], [3, 7, 10, 11, 14], [3, 7, 8], [7, 8, 19]])); (focus (simp only [lvAt_zero, lvAt_succ]; rfl)); exact zLv) | ((with_reducible first | apply wz (tok Try.prog) | apply wr_z (tok Try.prog)); exact zZ; decide) | ((with_reducible first | apply wzg (tok Try.prog) | apply wr_zg (tok Try.prog)); exact zU; exact zL; exact zU; exact zZ; decide) | ((with_reducible first | apply w_alloc (tok Try.prog)); exact zT; decide) | ((with_reducible first | apply w_store (tok Try.prog)); exact zV; exact zV; exact zS) | ((with_reducible first | apply wcall' | apply wr_call); exact zV; exact zVs; exact zAs; (focus (with_unfolding_all first | exact p27 | exact p30 | exact pf35 u u)); decide) | ((with_reducible first | apply wcallg' | apply wr_callg); exact zU; exact zL; exact zU; exact zV; exact zVs; exact zAs; (focus (with_unfolding_all first | exact p27 | exact p30 | exact pf35 u u)); decide) | ((with_reducible first | apply w_ift'); exact zV; exact zU) | ((with_reducible first | apply w_iff'); exact zV; exact zU) | ((with_reducible first | apply w_draw0 mixed); (focus (decide +kernel)))
        all_goals try clear tE
        refine ⟨i + 1, by omega, by omega, ?_⟩
        (have tu0 : Pur _ := unRows_pur l; have tu1 : Pur _ := unRows_pur (l.drop (i + 1)); have tE := And.intro (@upd_upd AV) <| And.intro (@upd_upd (Option Blk)) <| Cf.cells.eq_1; exact kcanS [])
      · have i1 : ((i : Int) < (l.length : Int)) = False := eq_false (by omega)
        have hdr : l.drop i = [] := List.drop_of_length_le (by omega)
        have kn : qok c [] = true := by have := qok_drop kl i; rw [hdr] at this; exact this
        rw [hdr]
        have p27 := pf27_nil c kn
        have tE := And.intro (@upd_upd AV) <| And.intro (@upd_upd (Option Blk)) <| And.intro Cf.cells.eq_1 <| And.intro i1 <| And.intro unRows_len <| And.intro ty3 <| And.intro ty4 <| And.intro ty5 <| And.intro ty23 <| And.intro ty25 <| And.intro ty55 <| And.intro ty56 <| And.intro ty58 <| Try.results9; repeat' first | ((with_reducible first | apply w_seq | apply w_region | apply wl_nil | apply wr_nil | apply wr_nilA | apply wr_nilE | apply go_normal | apply go_ret | apply go_exit | apply blk_normal | apply blk_ret | apply blk_here | apply w_block | apply w_skip | apply w_exit)) | ((with_reducible first | apply wz (tok Try.prog) | apply wr_z (tok Try.prog)); exact zZ; decide) | ((with_reducible first | apply wzg (tok Try.prog) | apply wr_zg (tok Try.prog)); exact zU; exact zL; exact zU; exact zZ; decide) | ((with_reducible first | apply w_alloc (tok Try.prog)); exact zT; decide) | ((with_reducible first | apply w_store (tok Try.prog)); exact zV; exact zV; exact zS) | ((with_reducible first | apply wcall' | apply wr_call); exact zV; exact zVs; exact zAs; (focus (with_unfolding_all first | exact p27)); decide) | ((with_reducible first | apply w_iff'); exact zV; exact zU) | ((with_reducible apply w_ret); (repeat (with_reducible first | apply go_ret | apply blk_ret)); (with_reducible apply done_ret (tok Try.prog)); exact zT; exact zD; exact zX)
        all_goals try clear tE
        simp [tup]
    · have hmn : 0 < m.length := List.length_pos_iff.2 hm0
      have tE := And.intro (@upd_upd AV) <| And.intro (@upd_upd (Option Blk)) <| And.intro Cf.cells.eq_1 <| And.intro hq <| And.intro hm <| And.intro unRows_len <| And.intro hfq <| And.intro hfm <| And.intro ty3 <| And.intro ty4 <| And.intro ty5 <| And.intro ty23 <| And.intro ty25 <| And.intro ty55 <| And.intro ty56 <| And.intro ty58 <| Try.results9; repeat' first | ((with_reducible first | apply w_seq | apply w_region | apply wl_nil | apply wr_nil | apply wr_nilA | apply wr_nilE | apply go_normal | apply go_ret | apply go_exit | apply blk_normal | apply blk_ret | apply blk_here | apply w_block | apply w_skip | apply w_exit)) | ((with_reducible first | apply wz (tok Try.prog) | apply wr_z (tok Try.prog)); exact zZ; decide) | ((with_reducible first | apply wzg (tok Try.prog) | apply wr_zg (tok Try.prog)); exact zU; exact zL; exact zU; exact zZ; decide) | ((with_reducible first | apply wcall' | apply wr_call); exact zV; exact zVs; exact zAs; (focus (with_unfolding_all first | exact pf32 | exact pf34 q | exact pf34 m | exact pp)); decide) | ((with_reducible first | apply wcallg' | apply wr_callg); exact zU; exact zL; exact zU; exact zV; exact zVs; exact zAs; (focus (with_unfolding_all first | exact pf32 | exact pf34 q | exact pf34 m | exact pp)); decide) | ((with_reducible first | apply w_ap | apply wr_ap); (focus (first | (intro _ ho _ hr _; (with_reducible apply ap_new (tok Try.prog) ho (hr := hr)); exact zT; exact zU; exact zT; exact zT; exact zU; exact zA; exact zV; exact zK; exact zM; exact zK; exact zK; decide) | (intro _ ho _ hr _; (with_reducible apply ap_own (tok Try.prog) ho (hr := hr)); exact zT; exact zU; exact zT; exact zT; exact zU; exact zV; exact zV; exact zH; exact zKo; exact zM; (focus (first | rfl | assumption)); exact zKo; exact zKo; decide))); decide) | ((with_reducible first | apply wp | apply wr_p); (focus (first | ((with_reducible first | apply p_slv (tok Try.prog)); exact zT; exact zU; exact zT; exact zV; exact zN; exact zN; (focus (first | exact zU | exact zB)); (focus (first | exact zU | exact zB)); (focus (first | exact zU | assumption))) | ((with_reducible first | apply p_slo (tok Try.prog)); exact zT; exact zU; exact zT; exact zV; exact zN; exact zN; (focus (first | exact zU | exact zB)); (focus (first | exact zU | exact zB)); (focus (first | exact zU | assumption))) | ((with_reducible first | apply p_nil (tok Try.prog) | apply p_nnil (tok Try.prog)); exact zT; exact zV; exact zU) | ((with_reducible first | apply p_bs0 (tok Try.prog)); exact zT; exact zU; exact zT) | ((with_reducible first | apply p_ap0 (tok Try.prog)); exact zT; exact zU; exact zT; exact zT; exact zU; exact zA; exact zV; (focus (first | exact Or.inl rfl | exact Or.inr rfl))) | ((with_reducible first | apply p_bytes (tok Try.prog)); exact zT; exact zU; exact zT; exact zU; exact zT; exact zU; exact zV))); decide) | ((with_reducible first | apply w_iff'); exact zV; exact zU)
      all_goals try clear tE
      refine W.ghost (g_freeze (d := 10) (id := 1) (off := 0) (len := q.length + m.length) (cap := none) (sz := 4) (cs := (unRows q).flatten ++ (unRows m).flatten) (e := 58) rfl rfl (by rw [List.length_append, hfq, hfm]; omega)) ?_
      have hch : chunk 4 (q.length + m.length) (((unRows q).flatten ++ (unRows m).flatten).drop 0) = unRows (q ++ m) := by
        have := chunk_flatten (rows := unRows (q ++ m)) (sz := 4) (unRows_row _)
        rw [unRows_len] at this
        simpa [unRows] using this
      rw [hch]
      refine w_cutS [(3, .vptr c.cells), (7, .bool true), (8, .view (unRows (q ++ m))), (10, .view (unRows (q ++ m))), (11, .int .i64 0)] [] [] ?_ ?_
      · (have tu0 : Pur _ := unRows_pur (q ++ m); have tE := And.intro (@upd_upd AV) <| And.intro (@upd_upd (Option Blk)) <| And.intro Cf.cells.eq_1 <| (@List.append_nil Un); exact kcanS [])
      simp only [St.ofS, List.length_nil]
      have kl : qok c (q ++ m) = true := hkl
      have ll : (q ++ m).length ≤ 80 := hll
      have dl : ∀ u, u ∈ q ++ m → u.d.length ≤ 1000000 := hdl
      generalize q ++ m = l at kl ll dl
      refine w_loopS (S := Nat) (fun i => [(3, .vptr c.cells), (7, .bool true), (8, .view (unRows (l.drop i))), (10, .view (unRows l)), (11, .int .i64 (i : Int))]) (fun _ => []) [] (fun i => i ≤ l.length) (fun i => l.length - i) 0 ?_ (Nat.zero_le _) ?_
      · have d0 : l.drop 0 = l := rfl
        (have tu0 : Pur _ := unRows_pur l; have tE := And.intro (@upd_upd AV) <| And.intro (@upd_upd (Option Blk)) <| And.intro Cf.cells.eq_1 <| d0; exact kcanS [])
      rintro i hi
      simp only [St.ofS, List.length_nil]
      by_cases e : i < l.length
      · obtain ⟨u, hu⟩ : ∃ u, l[i]? = some u := ⟨l[i], List.getElem?_eq_getElem e⟩
        have hdr : l.drop i = u :: l.drop (i + 1) := by
          rw [List.drop_eq_getElem_cons e]
          rw [List.getElem?_eq_getElem e] at hu
          cases hu; rfl
        have hkd := qok_drop kl i
        have hlen : (l.drop i).length ≤ 1000000 := by rw [List.length_drop]; omega
        have p30 := pf30 c (l.drop i) u.p hlen
        have hL := lastP_le u.p (l.drop i)
        rw [List.length_drop] at hL
        have hdd : ∀ x, x ∈ l.drop i → x.d.length ≤ 1000000 := fun x hx => dl x (List.mem_of_mem_drop hx)
        rw [hdr] at hkd hlen p30 hL hdd ⊢
        have hH := lastP_head u (l.drop (i + 1))
        have p27 := pf27_ok c u (l.drop (i + 1)) hlen hdd hkd
        rw [show ahI c (u :: l.drop (i + 1)) u.p = (lastP u.p (u :: l.drop (i + 1)) : Int) from if_pos hkd, show ahE c (u :: l.drop (i + 1)) u.p = 0 by unfold ahE; rw [if_pos hkd, if_neg (by omega)]] at p30
        generalize hk0 : lastP u.p (u :: l.drop (i + 1)) = k at p30 hL hH
        have i1 : ((i : Int) < (l.length : Int)) = True := eq_true (by omega)
        have i0 : (0 ≤ (i : Int)) = True := eq_true (by omega)
        have hr := un_row hu
        have w1 : IntKind.i64.wrap ((i : Int) + 1) = ((i + 1 : Nat) : Int) := by rw [wrap64 (by omega) (by omega)]; rfl
        have w2 : IntKind.i64.wrap ((l.length : Int) - (i : Int)) = (l.length : Int) - (i : Int) := wrap64 (by omega) (by omega)
        have k1 : ((k : Int) < 1) = False := eq_false (by omega)
        have k2 : ((k : Int) > (l.length : Int) - (i : Int)) = False := eq_false (by omega)
        have hb : decide (u = u) = true := by simp
        have tE := And.intro (@upd_upd AV) <| And.intro (@upd_upd (Option Blk)) <| And.intro Cf.cells.eq_1 <| And.intro Un.cells.eq_1 <| And.intro i1 <| And.intro i0 <| And.intro hr <| And.intro w1 <| And.intro w2 <| And.intro k1 <| And.intro k2 <| And.intro hb <| And.intro unRows_len <| And.intro ty3 <| And.intro ty4 <| And.intro ty5 <| And.intro ty23 <| And.intro ty25 <| And.intro ty55 <| And.intro ty56 <| And.intro ty58 <| Try.results9; repeat' first | ((with_reducible first | apply w_seq | apply w_region | apply wl_nil | apply wr_nil | apply wr_nilA | apply wr_nilE | apply go_normal | apply go_ret | apply go_exit | apply blk_normal | apply blk_ret | apply blk_here | apply w_block | apply w_skip | apply w_exit)) | ((with_reducible apply w_live (lvAt [[0, 1, 2], [1, 2, 3], [1, 2, 3, 7], [7], [1, 2, 3, 7], [1, 2, 3, 7, 8, 9], [1, 2, 3, 7, 8, 9], [1, 2, 3, 7, 8], [3, 7, 8, 10], [3, 7, 8, 10, 11], [3, 7, 8, 10, 11], [3, 7, 8, 10, 11], [3, 7, 8, 10, 11, 12, 13], [3, 7, 10, 11, 12, 13, 14, 15, 16], [], [3, 7, 10, 11, 14], [3, 7, 8], [7, 8, 19]])); (focus (simp only [lvAt_zero, lvAt_succ]; rfl)); exact zLv) | ((with_reducible first | apply wz (tok Try.prog) | apply wr_z (tok Try.prog)); exact zZ; decide) | ((with_reducible first | apply wzg (tok Try.prog) | apply wr_zg (tok Try.prog)); exact zU; exact zL; exact zU; exact zZ; decide) | ((with_reducible first | apply w_alloc (tok Try.prog)); exact zT; decide) | ((with_reducible first | apply w_store (tok Try.prog)); exact zV; exact zV; exact zS) | ((with_reducible first | apply wcall' | apply wr_call); exact zV; exact zVs; exact zAs; (focus (with_unfolding_all first | exact p27 | exact p30 | exact pf35 u u)); decide) | ((with_reducible first | apply wcallg' | apply wr_callg); exact zU; exact zL; exact zU; exact zV; exact zVs; exact zAs; (focus (with_unfolding_all first | exact p27 | exact p30 | exact pf35 u u)); decide) | ((with_reducible first | apply w_ift'); exact zV; exact zU) | ((with_reducible first | apply w_iff'); exact zV; exact zU) | ((with_reducible first | apply w_draw0 mixed); (focus (decide +kernel)))
        all_goals try clear tE
        refine ⟨i + 1, by omega, by omega, ?_⟩
        (have tu0 : Pur _ := unRows_pur l; have tu1 : Pur _ := unRows_pur (l.drop (i + 1)); have tE := And.intro (@upd_upd AV) <| And.intro (@upd_upd (Option Blk)) <| Cf.cells.eq_1; exact kcanS [])
      · have i1 : ((i : Int) < (l.length : Int)) = False := eq_false (by omega)
        have hdr : l.drop i = [] := List.drop_of_length_le (by omega)
        have kn : qok c [] = true := by have := qok_drop kl i; rw [hdr] at this; exact this
        rw [hdr]
        have p27 := pf27_nil c kn
        have tE := And.intro (@upd_upd AV) <| And.intro (@upd_upd (Option Blk)) <| And.intro Cf.cells.eq_1 <| And.intro i1 <| And.intro unRows_len <| And.intro ty3 <| And.intro ty4 <| And.intro ty5 <| And.intro ty23 <| And.intro ty25 <| And.intro ty55 <| And.intro ty56 <| And.intro ty58 <| Try.results9; repeat' first | ((with_reducible first | apply w_seq | apply w_region | apply wl_nil | apply wr_nil | apply wr_nilA | apply wr_nilE | apply go_normal | apply go_ret | apply go_exit | apply blk_normal | apply blk_ret | apply blk_here | apply w_block | apply w_skip | apply w_exit)) | ((with_reducible first | apply wz (tok Try.prog) | apply wr_z (tok Try.prog)); exact zZ; decide) | ((with_reducible first | apply wzg (tok Try.prog) | apply wr_zg (tok Try.prog)); exact zU; exact zL; exact zU; exact zZ; decide) | ((with_reducible first | apply w_alloc (tok Try.prog)); exact zT; decide) | ((with_reducible first | apply w_store (tok Try.prog)); exact zV; exact zV; exact zS) | ((with_reducible first | apply wcall' | apply wr_call); exact zV; exact zVs; exact zAs; (focus (with_unfolding_all first | exact p27)); decide) | ((with_reducible first | apply w_iff'); exact zV; exact zU) | ((with_reducible apply w_ret); (repeat (with_reducible first | apply go_ret | apply blk_ret)); (with_reducible apply done_ret (tok Try.prog)); exact zT; exact zD; exact zX)
        all_goals try clear tE
        simp [tup]
theorem pf9 (c : Cf) (q m : List Un) : PF Try.prog 9 [.agg c.cells, .view (unRows q), .view (unRows m)] (fun r => r = .bool true) := by
  cases hq : great q with
  | true => exact pf9_great c q m (.inl hq)
  | false =>
    cases hm : great m with
    | true => exact pf9_great c q m (.inr hm)
    | false =>
      by_cases h : putE c q m = 0
      · exact pf9_ok c q m hq hm h
      · exact pf9_err c q m hq hm h
end Go.Proofs.Ytclldbeefbbdlaa
