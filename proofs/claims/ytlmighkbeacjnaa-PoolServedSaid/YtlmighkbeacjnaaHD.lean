/- The reference's frames with another one at a place. -/
import Derived.Test.YtlmighkbeacjnaaLm6
import Derived.Test.YtlmighkbeacjnaaH9
open Go Go.Lg
set_option linter.unusedSimpArgs false
set_option linter.unusedVariables false
set_option maxHeartbeats 4000000
set_option maxRecDepth 20000
namespace Go.Proofs.Ytlmighkbeacjnaa
theorem args_4 {a b c d : AV} (ha : Pur a) (hb : Pur b) (hc : Pur c) (hd : Pur d) : ∀ x, x ∈ [a, b, c, d] → Pur x := fun x hx => by
  simp only [List.mem_cons, List.not_mem_nil, or_false] at hx
  rcases hx with rfl | rfl | rfl | rfl <;> assumption
theorem pf60 (f : Fs) (a : Nat) (u : Fr) (ha : a < f.l.length) (hl : f.l.length ≤ 1000000) (hd : ∀ x, x ∈ f.l → x.d.length ≤ 1000000 ∧ x.pins.length ≤ 1000000) (hud : u.d.length ≤ 1000000) (hup : u.pins.length ≤ 1000000) : PF Try.prog 60 [.agg f.cells, .int .i64 (a : Int), .agg u.cells] (fun r => r = .agg (Fs.cells ⟨f.l.set a u, f.h⟩)) := by
  have h51 := (nf51 u hud hup).pf
  have h14 := ac14 f hl hd
  refine pf_of_wf0 Try.func60 (c := _) rfl rfl (Nat.le_of_ble_eq_true rfl) (args_3 (fsa_pur f) (.int _ _) (fra_pur u)) ?_
  rw [show Try.f60.ntmps = 17 from rfl]
  have tE := And.intro (@upd_upd AV) <| And.intro (@upd_upd (Option Blk)) <| And.intro Fs.cells.eq_1 <| And.intro Fr.cells.eq_1 <| And.intro ty3 <| And.intro ty4 <| And.intro ty5 <| And.intro ty24 <| And.intro ty26 <| And.intro ty34 <| And.intro ty35 <| And.intro ty37 <| Try.results60; repeat' first | ((with_reducible first | apply w_seq | apply w_region | apply wl_nil | apply wr_nil | apply wr_nilA | apply wr_nilE | apply go_normal | apply go_ret | apply go_exit | apply blk_normal | apply blk_ret | apply blk_here | apply w_block | apply w_skip | apply w_exit | apply w_label)) | ((with_reducible first | apply wz (tok Try.prog) | apply wr_z (tok Try.prog)); exact zZ; decide) | ((with_reducible first | apply w_alloc (tok Try.prog)); exact zT; decide) | fail
  all_goals try clear tE
  (have tE := And.intro (@upd_upd AV) <| And.intro (@upd_upd (Option Blk)) <| Fs.cells.eq_1; (with_reducible apply wacall); exact zV; exact zVs; exact zAs; exact cal14; (focus (with_unfolding_all exact h14 _ _)); decide; clear tE)
  rintro r H' k0 ⟨hn', hold, htop, α, rfl, hown⟩
  rcases hown with ⟨hz, _⟩ | ⟨hs0, b, m, hb1, rfl, hbH, hmO⟩
  · rw [hz] at ha; cases ha
  have hb1 : 1 ≤ b := hb1
  have hn' : 1 ≤ k0 := hn'
  have e0' : H' 0 = some (.cells [.empty, .int .i64 (Int.ofNat 0)] 26) := hold 0 _ rfl
  have hbk : b < k0 := by
    rcases Nat.lt_or_ge b k0 with hx | hx
    · exact hx
    · rw [htop b hx] at hbH; cases hbH
  have qb : (b == k0) = false := by rw [beq_eq_false_iff_ne]; omega
  have qk : (k0 == b) = false := by rw [beq_eq_false_iff_ne]; omega
  have q0 : ((0 : Nat) == b) = false := by rw [beq_eq_false_iff_ne]; omega
  have q1 : ((0 : Nat) == k0) = false := by rw [beq_eq_false_iff_ne]; omega
  have c0 : (0 ≤ (a : Int)) = True := by simp
  have c1 : ((a : Int) < (f.l.length : Int)) = True := by simp; omega
  have hfl := oFlat_len hmO.1
  have b6 : (a * 6 + 6 ≤ (oRows f.l m).flatten.length) = True := by rw [hfl]; simp; omega
  obtain ⟨ab, hab⟩ : ∃ ab, m[a]? = some ab := ⟨m[a]'(by rw [hmO.1]; exact ha), List.getElem?_eq_getElem _⟩
  have hset := oFlat_row (List.getElem?_eq_getElem ha) hab u
  have hfz : ∀ X Y, Fz (upd (upd (upd H' k0 X) b (some (.cells (((((((oRows f.l m).flatten.set (a * 6) (.int .u8 u.k)).set (a * 6 + 1) (.int .i64 u.p)).set (a * 6 + 2) (.view (byteRows u.d))).set (a * 6 + 3) (.view (intRows u.pins))).set (a * 6 + 4) (.bool u.rf)).set (a * 6 + 5) (.bool u.dt)) 37))) 0 Y) (.agg [.slice b 0 f.l.length none 6, .int .i64 f.h]) (.agg (Fs.cells ⟨f.l.set a u, f.h⟩)) := fun X Y => by
    rw [hset]
    refine FzL.agg (.cons ?_ (.cons (.pur (.int _ _)) .nil))
    have := fz_frRows (H := upd (upd (upd H' k0 X) b (some (.cells (oRows (f.l.set a u) (m.set a (.view (byteRows u.d), .view (intRows u.pins)))).flatten 37))) 0 Y) (b := b) (l := f.l.set a u) (m := m.set a (.view (byteRows u.d), .view (intRows u.pins))) (by rw [upd_ne _ _ (by omega), upd_same]) (by rw [List.length_set, List.length_set]; exact hmO.1) (fun j w cd hw hcd => by
      by_cases hj : j = a
      · subst hj
        rw [set_at (List.getElem?_eq_getElem ha)] at hw
        rw [set_at hab] at hcd
        cases hw; cases hcd
        exact ⟨.pur (byteRows_pur _), .pur (intRows_pur _)⟩
      · rw [List.getElem?_set_ne (by omega)] at hw hcd
        have hO := (hmO.2 j w cd hw hcd).mono (S' := fun _ => True) (H' := upd (upd (upd H' k0 X) b (some (.cells (oRows (f.l.set a u) (m.set a (.view (byteRows u.d), .view (intRows u.pins)))).flatten 37))) 0 Y) (fun _ _ => trivial) (fun id x hid hx => by
          have hlt : id < k0 := by
            rcases Nat.lt_or_ge id k0 with hx' | hx'
            · exact hx'
            · rw [htop id hx'] at hx; cases hx
          have h1 : 1 ≤ id := hid.1
          rw [upd_ne _ _ (by omega), upd_ne _ _ hid.2, upd_ne _ _ (by omega)]; exact hx)
        exact ⟨hO.1.fz, hO.2.fz⟩)
    rwa [List.length_set] at this
  have tE := And.intro (@upd_upd AV) <| And.intro (@upd_upd (Option Blk)) <| And.intro Fs.cells.eq_1 <| And.intro Fr.cells.eq_1 <| And.intro qb <| And.intro qk <| And.intro q0 <| And.intro q1 <| And.intro c0 <| And.intro c1 <| And.intro e0' <| And.intro hbH <| And.intro b6 <| And.intro Nat.add_zero <| And.intro ty3 <| And.intro ty4 <| And.intro ty5 <| And.intro ty24 <| And.intro ty26 <| And.intro ty34 <| And.intro ty35 <| And.intro ty37 <| Try.results60; repeat' first | ((with_reducible first | apply w_seq | apply w_region | apply wl_nil | apply wr_nil | apply wr_nilA | apply wr_nilE | apply go_normal | apply go_ret | apply go_exit | apply blk_normal | apply blk_ret | apply blk_here | apply w_block | apply w_skip | apply w_exit | apply w_label)) | ((with_reducible apply w_live (lvAt [[0, 1, 2], [1, 3, 5, 6], [1, 5, 6, 7], [6, 7]])); (focus (simp only [lvAt_zero, lvAt_succ]; rfl)); exact zLv) | ((with_reducible first | apply wz (tok Try.prog) | apply wr_z (tok Try.prog)); exact zZ; decide) | ((with_reducible first | apply w_alloc (tok Try.prog)); exact zT; decide) | ((with_reducible first | apply w_store (tok Try.prog)); exact zV; exact zV; exact zS) | ((with_reducible first | apply fm_nil | apply fm_cons)) | ((with_reducible apply m_next); exact zU) | ((with_reducible apply m_nil0); exact zU) | ((with_reducible first | apply m_v (tok Try.prog)); exact zU; exact zZ; decide) | ((with_reducible first | apply m_xA (tok Try.prog)); exact zU; exact zI; decide) | ((with_reducible first | apply m_x (tok Try.prog)); exact zU; (focus (decide +kernel)); exact zZ; decide) | ((with_reducible first | apply m_chg0); exact zU; (focus ((with_reducible apply c_store (tok Try.prog)); exact zV; exact zV; exact zS))) | ((with_reducible first | apply m_call); exact zU; exact zV; exact zVs; exact zAs; (focus (with_unfolding_all first | exact h51)); decide) | ((with_reducible apply w_drawN (id := 2) [6] [([6], [0, 1, 2, 3, 4, 5, 6])] mixed); (focus (decide +kernel))) | ((with_reducible apply w_ret); (repeat (with_reducible first | apply go_ret | apply blk_ret)); (with_reducible first | apply donef_ret (tok Try.prog) | apply doneA_ret (tok Try.prog)); exact zT; exact zD) | fail
  all_goals try clear tE
  · exact hfz _ _
  · exact fsa_pur _
  · rfl
theorem pf65 (c : Cf) (f : Fs) (a cl : Int) (hl : f.l.length ≤ 1000000) (hp : ∀ x, x ∈ f.l → x.pins.length ≤ 1000000) : PF Try.prog 65 [.agg c.cells, .agg f.cells, .int .i64 a, .int .i64 cl] (fun r => r = .int .i64 (if okF c f = true then (if a < 0 ∨ a ≥ f.l.length ∨ cl < 0 ∨ cl ≥ c.cl then 2 else 0) else 8)) := by
  have h37 := pf37 c f hl hp
  refine pf_of_w0 Try.func65 (c := _) rfl rfl (Nat.le_of_ble_eq_true rfl) (args_4 (cf_pur c) (fsa_pur f) (.int _ _) (.int _ _)) ?_
  rw [show Try.f65.ntmps = 32 from rfl]
  cases hok : okF c f with
  | false =>
    have ev : eF c f = 8 := by simp [eF, hok]
    rw [ev] at h37
    have tE := And.intro (@upd_upd AV) <| And.intro (@upd_upd (Option Blk)) <| And.intro Cf.cells.eq_1 <| And.intro Fs.cells.eq_1 <| And.intro ty3 <| And.intro ty4 <| And.intro ty5 <| And.intro ty23 <| And.intro ty24 <| And.intro ty26 <| And.intro ty34 <| And.intro ty35 <| And.intro ty37 <| Try.results65; repeat' first | ((with_reducible first | apply w_seq | apply w_region | apply wl_nil | apply wr_nil | apply wr_nilA | apply wr_nilE | apply go_normal | apply go_ret | apply go_exit | apply blk_normal | apply blk_ret | apply blk_here | apply w_block | apply w_skip | apply w_exit | apply w_label)) | ((with_reducible first | apply wz (tok Try.prog) | apply wr_z (tok Try.prog)); exact zZ; decide) | ((with_reducible first | apply wcall' | apply wr_call); exact zV; exact zVs; exact zAs; (focus (with_unfolding_all first | exact h37)); decide) | ((with_reducible first | apply w_ift'); exact zV; exact zU) | ((with_reducible apply w_ret); (repeat (with_reducible first | apply go_ret | apply blk_ret)); (with_reducible apply done_ret (tok Try.prog)); exact zT; exact zD; exact zX) | fail
    all_goals try clear tE
    rfl
  | true =>
    have ev : eF c f = 0 := by simp [eF, hok]
    rw [ev] at h37
    by_cases h1 : a < 0
    · have g1 : (a < 0) = True := eq_true h1
      have tE := And.intro (@upd_upd AV) <| And.intro (@upd_upd (Option Blk)) <| And.intro Cf.cells.eq_1 <| And.intro Fs.cells.eq_1 <| And.intro g1 <| And.intro frRows_len <| And.intro ty3 <| And.intro ty4 <| And.intro ty5 <| And.intro ty23 <| And.intro ty24 <| And.intro ty26 <| And.intro ty34 <| And.intro ty35 <| And.intro ty37 <| Try.results65; repeat' first | ((with_reducible first | apply w_seq | apply w_region | apply wl_nil | apply wr_nil | apply wr_nilA | apply wr_nilE | apply go_normal | apply go_ret | apply go_exit | apply blk_normal | apply blk_ret | apply blk_here | apply w_block | apply w_skip | apply w_exit | apply w_label)) | ((with_reducible first | apply wz (tok Try.prog) | apply wr_z (tok Try.prog)); exact zZ; decide) | ((with_reducible first | apply wskip' | apply wr_skip); exact zU; exact zL; exact zU; decide) | ((with_reducible first | apply wcall' | apply wr_call); exact zV; exact zVs; exact zAs; (focus (with_unfolding_all first | exact h37)); decide) | ((with_reducible first | apply w_ift'); exact zV; exact zU) | ((with_reducible first | apply w_iff'); exact zV; exact zU) | ((with_reducible apply w_ret); (repeat (with_reducible first | apply go_ret | apply blk_ret)); (with_reducible apply done_ret (tok Try.prog)); exact zT; exact zD; exact zX) | fail
      all_goals try clear tE
      simp [tup, h1]
    · have g1 : (a < 0) = False := eq_false h1
      by_cases h2 : a ≥ f.l.length
      · have g2 : (a ≥ (f.l.length : Int)) = True := eq_true h2
        have tE := And.intro (@upd_upd AV) <| And.intro (@upd_upd (Option Blk)) <| And.intro Cf.cells.eq_1 <| And.intro Fs.cells.eq_1 <| And.intro g1 <| And.intro g2 <| And.intro frRows_len <| And.intro ty3 <| And.intro ty4 <| And.intro ty5 <| And.intro ty23 <| And.intro ty24 <| And.intro ty26 <| And.intro ty34 <| And.intro ty35 <| And.intro ty37 <| Try.results65; repeat' first | ((with_reducible first | apply w_seq | apply w_region | apply wl_nil | apply wr_nil | apply wr_nilA | apply wr_nilE | apply go_normal | apply go_ret | apply go_exit | apply blk_normal | apply blk_ret | apply blk_here | apply w_block | apply w_skip | apply w_exit | apply w_label)) | ((with_reducible first | apply wz (tok Try.prog) | apply wr_z (tok Try.prog)); exact zZ; decide) | ((with_reducible first | apply wzg (tok Try.prog) | apply wr_zg (tok Try.prog)); exact zU; exact zL; exact zU; exact zZ; decide) | ((with_reducible first | apply wskip' | apply wr_skip); exact zU; exact zL; exact zU; decide) | ((with_reducible first | apply wcall' | apply wr_call); exact zV; exact zVs; exact zAs; (focus (with_unfolding_all first | exact h37)); decide) | ((with_reducible first | apply w_ift'); exact zV; exact zU) | ((with_reducible first | apply w_iff'); exact zV; exact zU) | ((with_reducible apply w_ret); (repeat (with_reducible first | apply go_ret | apply blk_ret)); (with_reducible apply done_ret (tok Try.prog)); exact zT; exact zD; exact zX) | fail
        all_goals try clear tE
        simp [tup, h2]
      · have g2 : (a ≥ (f.l.length : Int)) = False := eq_false h2
        by_cases h3 : cl < 0
        · have g3 : (cl < 0) = True := eq_true h3
          have tE := And.intro (@upd_upd AV) <| And.intro (@upd_upd (Option Blk)) <| And.intro Cf.cells.eq_1 <| And.intro Fs.cells.eq_1 <| And.intro g1 <| And.intro g2 <| And.intro g3 <| And.intro frRows_len <| And.intro ty3 <| And.intro ty4 <| And.intro ty5 <| And.intro ty23 <| And.intro ty24 <| And.intro ty26 <| And.intro ty34 <| And.intro ty35 <| And.intro ty37 <| Try.results65; repeat' first | ((with_reducible first | apply w_seq | apply w_region | apply wl_nil | apply wr_nil | apply wr_nilA | apply wr_nilE | apply go_normal | apply go_ret | apply go_exit | apply blk_normal | apply blk_ret | apply blk_here | apply w_block | apply w_skip | apply w_exit | apply w_label)) | ((with_reducible first | apply wz (tok Try.prog) | apply wr_z (tok Try.prog)); exact zZ; decide) | ((with_reducible first | apply wzg (tok Try.prog) | apply wr_zg (tok Try.prog)); exact zU; exact zL; exact zU; exact zZ; decide) | ((with_reducible first | apply wskip' | apply wr_skip); exact zU; exact zL; exact zU; decide) | ((with_reducible first | apply wcall' | apply wr_call); exact zV; exact zVs; exact zAs; (focus (with_unfolding_all first | exact h37)); decide) | ((with_reducible first | apply w_ift'); exact zV; exact zU) | ((with_reducible first | apply w_iff'); exact zV; exact zU) | ((with_reducible apply w_ret); (repeat (with_reducible first | apply go_ret | apply blk_ret)); (with_reducible apply done_ret (tok Try.prog)); exact zT; exact zD; exact zX) | fail
          all_goals try clear tE
          simp [tup, h3]
        · have g3 : (cl < 0) = False := eq_false h3
          by_cases h4 : cl ≥ c.cl
          · have g4 : (cl ≥ c.cl) = True := eq_true h4
            have tE := And.intro (@upd_upd AV) <| And.intro (@upd_upd (Option Blk)) <| And.intro Cf.cells.eq_1 <| And.intro Fs.cells.eq_1 <| And.intro g1 <| And.intro g2 <| And.intro g3 <| And.intro g4 <| And.intro frRows_len <| And.intro ty3 <| And.intro ty4 <| And.intro ty5 <| And.intro ty23 <| And.intro ty24 <| And.intro ty26 <| And.intro ty34 <| And.intro ty35 <| And.intro ty37 <| Try.results65; repeat' first | ((with_reducible first | apply w_seq | apply w_region | apply wl_nil | apply wr_nil | apply wr_nilA | apply wr_nilE | apply go_normal | apply go_ret | apply go_exit | apply blk_normal | apply blk_ret | apply blk_here | apply w_block | apply w_skip | apply w_exit | apply w_label)) | ((with_reducible first | apply wz (tok Try.prog) | apply wr_z (tok Try.prog)); exact zZ; decide) | ((with_reducible first | apply wzg (tok Try.prog) | apply wr_zg (tok Try.prog)); exact zU; exact zL; exact zU; exact zZ; decide) | ((with_reducible first | apply wcall' | apply wr_call); exact zV; exact zVs; exact zAs; (focus (with_unfolding_all first | exact h37)); decide) | ((with_reducible first | apply w_ift'); exact zV; exact zU) | ((with_reducible first | apply w_iff'); exact zV; exact zU) | ((with_reducible apply w_ret); (repeat (with_reducible first | apply go_ret | apply blk_ret)); (with_reducible apply done_ret (tok Try.prog)); exact zT; exact zD; exact zX) | fail
            all_goals try clear tE
            simp [tup, h4]
          · have g4 : (cl ≥ c.cl) = False := eq_false h4
            have tE := And.intro (@upd_upd AV) <| And.intro (@upd_upd (Option Blk)) <| And.intro Cf.cells.eq_1 <| And.intro Fs.cells.eq_1 <| And.intro g1 <| And.intro g2 <| And.intro g3 <| And.intro g4 <| And.intro frRows_len <| And.intro ty3 <| And.intro ty4 <| And.intro ty5 <| And.intro ty23 <| And.intro ty24 <| And.intro ty26 <| And.intro ty34 <| And.intro ty35 <| And.intro ty37 <| Try.results65; repeat' first | ((with_reducible first | apply w_seq | apply w_region | apply wl_nil | apply wr_nil | apply wr_nilA | apply wr_nilE | apply go_normal | apply go_ret | apply go_exit | apply blk_normal | apply blk_ret | apply blk_here | apply w_block | apply w_skip | apply w_exit | apply w_label)) | ((with_reducible first | apply wz (tok Try.prog) | apply wr_z (tok Try.prog)); exact zZ; decide) | ((with_reducible first | apply wzg (tok Try.prog) | apply wr_zg (tok Try.prog)); exact zU; exact zL; exact zU; exact zZ; decide) | ((with_reducible first | apply wcall' | apply wr_call); exact zV; exact zVs; exact zAs; (focus (with_unfolding_all first | exact h37)); decide) | ((with_reducible first | apply w_iff'); exact zV; exact zU) | ((with_reducible apply w_ret); (repeat (with_reducible first | apply go_ret | apply blk_ret)); (with_reducible apply done_ret (tok Try.prog)); exact zT; exact zD; exact zX) | fail
            all_goals try clear tE
            simp only [tup, if_true]
            rw [if_neg (by omega)]
end Go.Proofs.Ytlmighkbeacjnaa
