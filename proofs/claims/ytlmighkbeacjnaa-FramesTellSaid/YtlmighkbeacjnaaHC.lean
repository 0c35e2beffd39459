/- FramesTell: the law computes true. -/
import Derived.Test.YtlmighkbeacjnaaHB
open Go Go.Lg
set_option linter.unusedSimpArgs false
set_option linter.unusedVariables false
set_option maxHeartbeats 4000000
set_option maxRecDepth 20000
namespace Go.Proofs.Ytlmighkbeacjnaa
theorem swept_mem {l : List Fr} {h i : Nat} {x : Fr} (hx : x ∈ swept l h i) : ∃ y, y ∈ l ∧ x.d = y.d ∧ x.pins = y.pins := by
  obtain ⟨j, hj, rfl⟩ := List.getElem_of_mem hx
  rw [swept_len] at hj
  obtain ⟨y, hy, h1, h2⟩ := swept_pins (h := h) (i := i) (List.getElem?_eq_getElem hj)
  rw [List.getElem?_eq_getElem (by rw [swept_len]; exact hj)] at hy
  cases hy
  exact ⟨_, List.getElem_mem hj, h1, h2⟩
theorem vicF_small (c : Cf) (f : Fs) (hl : f.l.length ≤ 1000000) (hd : ∀ x, x ∈ f.l → x.d.length ≤ 1000000 ∧ x.pins.length ≤ 1000000) : (vicF c f).l.length ≤ 1000000 ∧ ∀ x, x ∈ (vicF c f).l → x.d.length ≤ 1000000 ∧ x.pins.length ≤ 1000000 := by
  unfold vicF
  split
  · split
    · exact ⟨by simp, fun x hx => by simp at hx⟩
    · refine ⟨by rw [swept_len]; exact hl, fun x hx => ?_⟩
      obtain ⟨y, hy, h1, h2⟩ := swept_mem hx
      rw [h1, h2]; exact hd y hy
  · exact ⟨by simp, fun x hx => by simp at hx⟩
theorem newF_small (c : Cf) : (newF c).l.length ≤ 1000000 ∧ ∀ x, x ∈ (newF c).l → x.pins.length ≤ 1000000 := by
  unfold newF
  split
  · rename_i hg
    obtain ⟨n, fr, hn, hfr, hn1, hf1⟩ := good_nums hg
    refine ⟨by simp; omega, fun x hx => ?_⟩
    rw [List.eq_of_mem_replicate hx]
    simp [freeFr]; omega
  · exact ⟨by simp, fun x hx => by simp at hx⟩
theorem sameF_self (f : Fs) : sameF f f = true := by simp [sameF]
theorem args_6 {c : Cf} {f o : Fs} {p : Int} : ∀ x, x ∈ [AV.agg c.cells, .agg f.cells, .agg o.cells, .int .i64 p] → Pur x := by
  intro x hx
  simp only [List.mem_cons, List.not_mem_nil, or_false] at hx
  rcases hx with rfl | rfl | rfl | rfl
  · exact cf_pur c
  · exact fsa_pur f
  · exact fsa_pur o
  · exact .int _ _
theorem pf6_great (c : Cf) (f o : Fs) (p : Int) (hg : greatF f.l = true ∨ greatF o.l = true) : PF Try.prog 6 [.agg c.cells, .agg f.cells, .agg o.cells, .int .i64 p] (fun r => r = .bool true) := by
  refine pf_of_w0 Try.func6 (c := _) rfl rfl (Nat.le_of_ble_eq_true rfl) args_6 ?_
  rw [show Try.f6.ntmps = 156 from rfl]
  cases hg1 : greatF f.l with
  | true =>
    have tE := And.intro (@upd_upd AV) <| And.intro (@upd_upd (Option Blk)) <| And.intro Cf.cells.eq_1 <| And.intro Fs.cells.eq_1 <| And.intro hg1 <| And.intro ty3 <| And.intro ty4 <| And.intro ty5 <| And.intro ty23 <| And.intro ty24 <| And.intro ty26 <| And.intro ty34 <| And.intro ty35 <| And.intro ty37 <| Try.results6; repeat' first | ((with_reducible first | apply w_seq | apply w_region | apply wl_nil | apply wr_nil | apply wr_nilA | apply wr_nilE | apply go_normal | apply go_ret | apply go_exit | apply blk_normal | apply blk_ret | apply blk_here | apply w_block | apply w_skip | apply w_exit | apply w_label)) | ((with_reducible first | apply wz (tok Try.prog) | apply wr_z (tok Try.prog)); exact zZ; decide) | ((with_reducible first | apply wskip' | apply wr_skip); exact zU; exact zL; exact zU; decide) | ((with_reducible first | apply wcall' | apply wr_call); exact zV; exact zVs; exact zAs; (focus (with_unfolding_all first | exact pf10 f)); decide) | ((with_reducible first | apply w_ift'); exact zV; exact zU) | ((with_reducible apply w_ret); (repeat (with_reducible first | apply go_ret | apply blk_ret)); (with_reducible apply done_ret (tok Try.prog)); exact zT; exact zD; exact zX) | fail
    all_goals try clear tE
    rfl
  | false =>
    have hg2 : greatF o.l = true := by rw [hg1] at hg; simpa using hg
    have tE := And.intro (@upd_upd AV) <| And.intro (@upd_upd (Option Blk)) <| And.intro Cf.cells.eq_1 <| And.intro Fs.cells.eq_1 <| And.intro hg1 <| And.intro hg2 <| And.intro ty3 <| And.intro ty4 <| And.intro ty5 <| And.intro ty23 <| And.intro ty24 <| And.intro ty26 <| And.intro ty34 <| And.intro ty35 <| And.intro ty37 <| Try.results6; repeat' first | ((with_reducible first | apply w_seq | apply w_region | apply wl_nil | apply wr_nil | apply wr_nilA | apply wr_nilE | apply go_normal | apply go_ret | apply go_exit | apply blk_normal | apply blk_ret | apply blk_here | apply w_block | apply w_skip | apply w_exit | apply w_label)) | ((with_reducible first | apply wz (tok Try.prog) | apply wr_z (tok Try.prog)); exact zZ; decide) | ((with_reducible first | apply wzg (tok Try.prog) | apply wr_zg (tok Try.prog)); exact zU; exact zL; exact zU; exact zZ; decide) | ((with_reducible first | apply wcall' | apply wr_call); exact zV; exact zVs; exact zAs; (focus (with_unfolding_all first | exact pf10 f | exact pf10 o)); decide) | ((with_reducible first | apply wcallg' | apply wr_callg); exact zU; exact zL; exact zU; exact zV; exact zVs; exact zAs; (focus (with_unfolding_all first | exact pf10 f | exact pf10 o)); decide) | ((with_reducible first | apply w_ift'); exact zV; exact zU) | ((with_reducible apply w_ret); (repeat (with_reducible first | apply go_ret | apply blk_ret)); (with_reducible apply done_ret (tok Try.prog)); exact zT; exact zD; exact zX) | fail
    all_goals try clear tE
    rfl
/-- Frames that a function hands back in new memory. -/
theorem own_fs {H : Heap} {S : Nat → Prop} {x : AV} {f : Fs} (h : Own H S x (.agg f.cells)) : ∃ a, x = .agg [a, .int .i64 f.h] ∧ Own H S a (.view (frRows f.l)) := by
  obtain ⟨xs, rfl, h1⟩ := h.agg_inv
  obtain ⟨a, r, rfl, ha, h2⟩ := h1.cons_inv
  obtain ⟨b, r, rfl, hb, h3⟩ := h2.cons_inv
  have := h3.nil_inv
  subst this
  rw [hb.int_inv]
  exact ⟨a, rfl, ha⟩
theorem pf6_main (c : Cf) (f o : Fs) (p : Int) (hg : greatF f.l = false) (hgo : greatF o.l = false) : PF Try.prog 6 [.agg c.cells, .agg f.cells, .agg o.cells, .int .i64 p] (fun r => r = .bool true) := by
  obtain ⟨hl0, hd0⟩ := great_small hg
  have hl : f.l.length ≤ 1000000 := by omega
  have hd : ∀ x, x ∈ f.l → x.d.length ≤ 1000000 ∧ x.pins.length ≤ 1000000 := fun x hx => by have := hd0 x hx; omega
  have hp : ∀ x, x ∈ f.l → x.pins.length ≤ 1000000 := fun x hx => (hd x hx).2
  have h14 := (nf14 f hl hd).pf
  have h31 := (nf31 c).pf
  have h32 := pf32 c
  have h33 := pf33 c f p hl hp
  have h34 := pf34 c f p hl hp
  have h12 := nf12 c f hl hd
  have h35 := pf35 c f hl hd
  have h36 := nf36 f hl hd
  have h11 := pf11 c f hl hp
  have h37 := pf37 c f hl hp
  have h38o := pf38 f o hl hd
  have h15o := pf15 f o hl hp
  have h38 := pf38 f f hl hd
  have h15 := pf15 f f hl hp
  have h40 := (nf40 c f hl hp).pf
  have h41 := pf41 c f hl hp
  have h39 := pf39 (dirtyF c f) (dirtyF c f) (by
    unfold dirtyF
    split
    · have := dirtyL_len f.l 0; omega
    · simp)
  have hN := pf15 (newF c) (newF c) (newF_small c).1 (newF_small c).2
  have hvs := vicF_small c f hl hd
  have hV := pf15 (vicF c f) (vicF c f) hvs.1 (fun x hx => (hvs.2 x hx).2)
  rw [sameF_self] at h38 h15 hN hV
  rw [decide_eq_true rfl] at h39
  generalize newF c = N at h31 h32 hN
  generalize newE c = Ne at h31 h32
  generalize findI c f p = FI at h33 h34
  generalize findB c f p = FB at h33 h34
  generalize vicF c f = V at h12 h35 hV hvs
  generalize vicA c f = VA at h12 h35
  generalize vicE c f = VE at h12 h35
  generalize eF c f = E at h11 h37
  generalize sameF f o = sm at h38o h15o
  generalize dirtyF c f = D at h40 h41 h39
  refine pf_of_w0 Try.func6 (c := _) rfl rfl (Nat.le_of_ble_eq_true rfl) args_6 ?_
  rw [show Try.f6.ntmps = 156 from rfl]
  have tE := And.intro (@upd_upd AV) <| And.intro (@upd_upd (Option Blk)) <| And.intro Cf.cells.eq_1 <| And.intro Fs.cells.eq_1 <| And.intro hg <| And.intro hgo <| And.intro ty3 <| And.intro ty4 <| And.intro ty5 <| And.intro ty23 <| And.intro ty24 <| And.intro ty26 <| And.intro ty34 <| And.intro ty35 <| And.intro ty37 <| Try.results6; repeat' first | ((with_reducible first | apply w_seq | apply w_region | apply wl_nil | apply wr_nil | apply wr_nilA | apply wr_nilE | apply go_normal | apply go_ret | apply go_exit | apply blk_normal | apply blk_ret | apply blk_here | apply w_block | apply w_skip | apply w_exit | apply w_label)) | ((with_reducible first | apply wz (tok Try.prog) | apply wr_z (tok Try.prog)); exact zZ; decide) | ((with_reducible first | apply wzg (tok Try.prog) | apply wr_zg (tok Try.prog)); exact zU; exact zL; exact zU; exact zZ; decide) | ((with_reducible first | apply w_alloc (tok Try.prog)); exact zT; decide) | ((with_reducible first | apply w_store (tok Try.prog)); exact zV; exact zV; exact zS) | ((with_reducible first | apply wcall' | apply wr_call); exact zV; exact zVs; exact zAs; (focus (with_unfolding_all first | exact pf10 f | exact pf10 o | exact h14 | exact h31 | exact h32 | exact h33 | exact h34)); decide) | ((with_reducible first | apply wcallg' | apply wr_callg); exact zU; exact zL; exact zU; exact zV; exact zVs; exact zAs; (focus (with_unfolding_all first | exact pf10 f | exact pf10 o | exact h14 | exact h31 | exact h32 | exact h33 | exact h34)); decide) | ((with_reducible first | apply w_iff'); exact zV; exact zU) | fail
  all_goals try clear tE
  (have tE := And.intro (@upd_upd AV) <| And.intro (@upd_upd (Option Blk)) <| And.intro Cf.cells.eq_1 <| Fs.cells.eq_1; (with_reducible apply wacall); exact zV; exact zVs; exact zAs; exact h12.cal; (focus (with_unfolding_all exact h12.ac _ _)); decide; clear tE)
  rintro r H1 k1 ⟨hn1, hold1, htop1, x, y, rfl, hown1, rfl⟩
  obtain ⟨xs, rfl, hx1⟩ := hown1.tuple_inv
  obtain ⟨x1, r1, rfl, hx2, hx3⟩ := hx1.cons_inv
  obtain ⟨x2, r2, rfl, hx4, hx5⟩ := hx3.cons_inv
  obtain ⟨x3, r3, rfl, hx6, hx7⟩ := hx5.cons_inv
  obtain rfl := hx7.nil_inv
  obtain rfl := hx4.int_inv
  obtain rfl := hx6.int_inv
  obtain ⟨a1, rfl, ho1⟩ := own_fs hx2
  clear hx1 hx2 hx3 hx4 hx5 hx6 hx7 hown1
  have hn1 : 3 ≤ k1 := hn1
  have e10 : H1 0 = some (.cells f.cells 26) := hold1 0 _ rfl
  have e11 : H1 1 = some (.cells N.cells 26) := hold1 1 _ rfl
  have e12 : H1 2 = some (.cells N.cells 26) := hold1 2 _ rfl
  clear hold1
  have z1 := (own_scal ho1).1
  simp only [scalA] at z1
  have p0 : ((0 : Nat) == k1) = false := by rw [beq_eq_false_iff_ne]; omega
  have p0' : ((0 : Nat) == k1 + 1) = false := by rw [beq_eq_false_iff_ne]; omega
  have tE := And.intro (@upd_upd AV) <| And.intro (@upd_upd (Option Blk)) <| And.intro Cf.cells.eq_1 <| And.intro Fs.cells.eq_1 <| And.intro e10 <| And.intro e11 <| And.intro e12 <| And.intro z1 <| And.intro p0 <| And.intro p0' <| And.intro ty3 <| And.intro ty4 <| And.intro ty5 <| And.intro ty23 <| And.intro ty24 <| And.intro ty26 <| And.intro ty34 <| And.intro ty35 <| And.intro ty37 <| Try.results6; repeat' first | ((with_reducible first | apply w_seq | apply w_region | apply wl_nil | apply wr_nil | apply wr_nilA | apply wr_nilE | apply go_normal | apply go_ret | apply go_exit | apply blk_normal | apply blk_ret | apply blk_here | apply w_block | apply w_skip | apply w_exit | apply w_label)) | ((with_reducible first | apply wz (tok Try.prog) | apply wr_z (tok Try.prog)); exact zZ; decide) | ((with_reducible first | apply w_alloc (tok Try.prog)); exact zT; decide) | ((with_reducible first | apply w_store (tok Try.prog)); exact zV; exact zV; exact zS) | ((with_reducible first | apply wcall' | apply wr_call); exact zV; exact zVs; exact zAs; (focus (with_unfolding_all first | exact h35)); decide) | fail
  all_goals try clear tE
  (have tE := And.intro (@upd_upd AV) <| And.intro (@upd_upd (Option Blk)) <| And.intro Cf.cells.eq_1 <| Fs.cells.eq_1; (with_reducible apply wacall); exact zV; exact zVs; exact zAs; exact h36.cal; (focus (with_unfolding_all exact h36.ac _ _)); decide; clear tE)
  rintro r H2 k2 ⟨hn2, hold2, htop2, x, y, rfl, hown2, rfl⟩
  obtain ⟨a2, rfl, ho2⟩ := own_fs hown2
  clear hown2
  have hn2 : k1 + 2 ≤ k2 := hn2
  have ho2 : Own H2 (k1 + 2 ≤ ·) a2 (.view (frRows f.l)) := ho2
  have b0 : H2 0 = some (.cells f.cells 26) := hold2 0 _ (by rw [upd_ne _ _ (by omega), upd_ne _ _ (by omega)]; exact e10)
  have b1 : H2 1 = some (.cells N.cells 26) := hold2 1 _ (by rw [upd_ne _ _ (by omega), upd_ne _ _ (by omega)]; exact e11)
  have b2 : H2 2 = some (.cells N.cells 26) := hold2 2 _ (by rw [upd_ne _ _ (by omega), upd_ne _ _ (by omega)]; exact e12)
  have b3 : H2 k1 = some (.cells [a1, .int .i64 V.h] 26) := hold2 k1 _ (by rw [upd_ne _ _ (by omega), upd_same])
  have b4 : H2 (k1 + 1) = some (.cells V.cells 26) := hold2 (k1 + 1) _ (by rw [upd_same]; rfl)
  have ho1 : Own H2 (fun id => 3 ≤ id ∧ id < k1) a1 (.view (frRows V.l)) := ho1.mv fun id b hid hb => by
    have hlt : id < k1 := by
      rcases Nat.lt_or_ge id k1 with h | h
      · exact h
      · rw [htop1 id h] at hb; cases hb
    exact ⟨⟨hid, hlt⟩, hold2 id b (by rw [upd_ne _ _ (by omega), upd_ne _ _ (by omega)]; exact hb)⟩
  have ho2 : Own H2 (fun id => k1 + 2 ≤ id ∧ id < k2) a2 (.view (frRows f.l)) := ho2.mv fun id b hid hb => by
    have hlt : id < k2 := by
      rcases Nat.lt_or_ge id k2 with h | h
      · exact h
      · rw [htop2 id h] at hb; cases hb
    exact ⟨⟨hid, hlt⟩, hb⟩
  clear hold2 e10 e11 e12 htop1 p0 p0'
  have z2 := (own_scal ho2).1
  simp only [scalA] at z2
  obtain ⟨Hc, hHc⟩ : ∃ X, X = upd H2 k2 (some (.cells [a2, .int .i64 f.h] 26)) := ⟨_, rfl⟩
  have hold : ∀ id, id < k2 → Hc id = H2 id := fun id hid => by rw [hHc, upd_ne _ _ (by omega)]
  have ho1 : Own Hc (fun id => 3 ≤ id ∧ id < k1) a1 (.view (frRows V.l)) := ho1.mv fun id b hid hb => ⟨hid, by rw [hold id (by omega)]; exact hb⟩
  have ho2 : Own Hc (fun id => k1 + 2 ≤ id ∧ id < k2) a2 (.view (frRows f.l)) := ho2.mv fun id b hid hb => ⟨hid, by rw [hold id (by omega)]; exact hb⟩
  rw [← hold 0 (by omega)] at b0
  rw [← hold 1 (by omega)] at b1
  rw [← hold 2 (by omega)] at b2
  rw [← hold k1 (by omega)] at b3
  rw [← hold (k1 + 1) (by omega)] at b4
  have b5 : Hc k2 = some (.cells [a2, .int .i64 f.h] 26) := by rw [hHc, upd_same]
  have hlA : AC Try.prog 15 [.agg [a1, .int .i64 V.h], .agg V.cells] Hc (k2 + 1) (fun r h' n' => r = .ret (.bool true) ∧ h' = Hc ∧ n' = k2 + 1) :=
    PF.look hV (.bool _) _ _ (.cons (FzL.agg (.cons ho1.fz (.cons (.pur (.int _ _)) .nil))) (.cons (.pur (fsa_pur V)) .nil))
  have hlB : AC Try.prog 15 [.agg [a2, .int .i64 f.h], .agg f.cells] Hc (k2 + 1) (fun r h' n' => r = .ret (.bool true) ∧ h' = Hc ∧ n' = k2 + 1) :=
    PF.look h15 (.bool _) _ _ (.cons (FzL.agg (.cons ho2.fz (.cons (.pur (.int _ _)) .nil))) (.cons (.pur (fsa_pur f)) .nil))
  have hHc' : upd H2 k2 (some (.cells [a2, .int .i64 f.h] 26)) = Hc := hHc.symm
  have tE := And.intro (@upd_upd AV) <| And.intro (@upd_upd (Option Blk)) <| And.intro Cf.cells.eq_1 <| And.intro Fs.cells.eq_1 <| And.intro z2 <| And.intro hHc' <| And.intro b0 <| And.intro b1 <| And.intro b2 <| And.intro b3 <| And.intro b4 <| And.intro b5 <| And.intro ty3 <| And.intro ty4 <| And.intro ty5 <| And.intro ty23 <| And.intro ty24 <| And.intro ty26 <| And.intro ty34 <| And.intro ty35 <| And.intro ty37 <| Try.results6; repeat' first | ((with_reducible first | apply w_seq | apply w_region | apply wl_nil | apply wr_nil | apply wr_nilA | apply wr_nilE | apply go_normal | apply go_ret | apply go_exit | apply blk_normal | apply blk_ret | apply blk_here | apply w_block | apply w_skip | apply w_exit | apply w_label)) | ((with_reducible apply w_live (lvAt [[0, 1, 2, 3], [3, 4, 5, 6], [], [3, 4, 5, 6], [3, 4, 5, 6, 9], [3, 4, 5, 6, 9, 10, 11], [3, 4, 5, 6, 9, 10, 11, 12, 13], [3, 4, 5, 6, 9, 10, 11, 12, 13, 14, 15], [4, 5, 6, 9, 10, 11, 12, 13, 14, 15, 16, 17], [4, 5, 6, 9, 10, 11, 12, 13, 14, 15, 16, 17, 18, 19, 20], [4, 5, 6, 9, 10, 11, 12, 13, 14, 15, 16, 17, 18, 19, 20, 21, 22, 23], [4, 5, 6, 9, 10, 11, 12, 13, 14, 15, 16, 17, 18, 19, 20, 21, 22, 23, 24], [4, 5, 6, 9, 18, 24, 25], [5, 9, 18, 24, 25, 26], [5, 9, 24, 25, 26], [5, 9, 25, 26]])); (focus (simp only [lvAt_zero, lvAt_succ]; rfl)); exact zLv) | ((with_reducible first | apply wz (tok Try.prog) | apply wr_z (tok Try.prog)); exact zZ; decide) | ((with_reducible first | apply wzg (tok Try.prog) | apply wr_zg (tok Try.prog)); exact zU; exact zL; exact zU; exact zZ; decide) | ((with_reducible first | apply w_alloc (tok Try.prog)); exact zT; decide) | ((with_reducible first | apply w_store (tok Try.prog)); exact zV; exact zV; exact zS) | ((with_reducible first | apply wcall' | apply wr_call); exact zV; exact zVs; exact zAs; (focus (with_unfolding_all first | exact hN | exact h11 | exact h37 | exact h38o | exact h38 | exact h15o | exact h40 | exact h41 | exact h39)); decide) | ((with_reducible first | apply wcallg' | apply wr_callg); exact zU; exact zL; exact zU; exact zV; exact zVs; exact zAs; (focus (with_unfolding_all first | exact hN | exact h11 | exact h37 | exact h38o | exact h38 | exact h15o | exact h40 | exact h41 | exact h39)); decide) | ((with_reducible first | apply wacallg'); exact zU; exact zL; exact zU; exact zV; exact zVs; exact zAs; (focus (first | exact ⟨_, Try.func15, rfl, rfl⟩)); (focus (with_unfolding_all first | exact hlA | exact hlB)); decide) | ((with_reducible first | apply w_draw0 mixed); (focus (decide +kernel))) | fail
  all_goals try clear tE
  have s1 := ac29 V.l V.h a1 (fun id => 3 ≤ id ∧ id < k1) Hc (k2 + 1) ho1 (fun id h => by omega) hvs.1 hvs.2
  (have tE := And.intro (@upd_upd AV) <| And.intro (@upd_upd (Option Blk)) <| And.intro Cf.cells.eq_1 <| Fs.cells.eq_1; (with_reducible apply wacall); exact zV; exact zVs; exact zAs; exact cal29; (focus (with_unfolding_all exact s1)); decide; clear tE)
  rintro r H3 n3 ⟨rfl, sp1, rfl⟩
  have keep1 : ∀ id, id < k2 + 1 → ¬ (3 ≤ id ∧ id < k1) → H3 id = Hc id := fun id hid hs => by rw [sp1.out id hs, upd_ne _ _ (by omega)]
  have c5 : H3 k2 = some (.cells [a2, .int .i64 f.h] 26) := by rw [keep1 k2 (by omega) (by omega)]; exact b5
  have c0 : H3 0 = some (.cells f.cells 26) := by rw [keep1 0 (by omega) (by omega)]; exact b0
  have ho3 : Own H3 (fun id => k1 + 2 ≤ id ∧ id < k2) a2 (.view (frRows f.l)) := ho2.mv fun id b hid hb => ⟨hid, by rw [keep1 id (by omega) (by omega)]; exact hb⟩
  have tE := And.intro (@upd_upd AV) <| And.intro (@upd_upd (Option Blk)) <| And.intro Cf.cells.eq_1 <| And.intro Fs.cells.eq_1 <| And.intro c5 <| And.intro ty3 <| And.intro ty4 <| And.intro ty5 <| And.intro ty23 <| And.intro ty24 <| And.intro ty26 <| And.intro ty34 <| And.intro ty35 <| And.intro ty37 <| Try.results6; repeat' first | ((with_reducible first | apply w_seq | apply w_region | apply wl_nil | apply wr_nil | apply wr_nilA | apply wr_nilE | apply go_normal | apply go_ret | apply go_exit | apply blk_normal | apply blk_ret | apply blk_here | apply w_block | apply w_skip | apply w_exit | apply w_label)) | ((with_reducible first | apply wz (tok Try.prog) | apply wr_z (tok Try.prog)); exact zZ; decide) | fail
  all_goals try clear tE
  have s2 := ac29 f.l f.h a2 (fun id => k1 + 2 ≤ id ∧ id < k2) H3 (k2 + 1 + 1) ho3 (fun id h => by omega) hl hd
  (have tE := And.intro (@upd_upd AV) <| And.intro (@upd_upd (Option Blk)) <| And.intro Cf.cells.eq_1 <| Fs.cells.eq_1; (with_reducible apply wacall); exact zV; exact zVs; exact zAs; exact cal29; (focus (with_unfolding_all exact s2)); decide; clear tE)
  rintro r H4 n4 ⟨rfl, sp2, rfl⟩
  have d0 : H4 0 = some (.cells f.cells 26) := by rw [sp2.out 0 (by omega), upd_ne _ _ (by omega)]; exact c0
  have tE := And.intro (@upd_upd AV) <| And.intro (@upd_upd (Option Blk)) <| And.intro Cf.cells.eq_1 <| And.intro Fs.cells.eq_1 <| And.intro d0 <| And.intro ty3 <| And.intro ty4 <| And.intro ty5 <| And.intro ty23 <| And.intro ty24 <| And.intro ty26 <| And.intro ty34 <| And.intro ty35 <| And.intro ty37 <| Try.results6; repeat' first | ((with_reducible first | apply w_seq | apply w_region | apply wl_nil | apply wr_nil | apply wr_nilA | apply wr_nilE | apply go_normal | apply go_ret | apply go_exit | apply blk_normal | apply blk_ret | apply blk_here | apply w_block | apply w_skip | apply w_exit | apply w_label)) | ((with_reducible first | apply wz (tok Try.prog) | apply wr_z (tok Try.prog)); exact zZ; decide) | ((with_reducible first | apply wzg (tok Try.prog) | apply wr_zg (tok Try.prog)); exact zU; exact zL; exact zU; exact zZ; decide) | ((with_reducible first | apply wcallg' | apply wr_callg); exact zU; exact zL; exact zU; exact zV; exact zVs; exact zAs; (focus (with_unfolding_all first | exact h15)); decide) | ((with_reducible apply w_ret); (repeat (with_reducible first | apply go_ret | apply blk_ret)); (with_reducible apply done_ret (tok Try.prog)); exact zT; exact zD; exact zX) | fail
  all_goals try clear tE
  rfl
theorem pf6 (c : Cf) (f o : Fs) (p : Int) : PF Try.prog 6 [.agg c.cells, .agg f.cells, .agg o.cells, .int .i64 p] (fun r => r = .bool true) := by
  cases hg : greatF f.l with
  | true => exact pf6_great c f o p (.inl hg)
  | false =>
    cases hgo : greatF o.l with
    | true => exact pf6_great c f o p (.inr hgo)
    | false => exact pf6_main c f o p hg hgo
end Go.Proofs.Ytlmighkbeacjnaa
