/- Pins more and less: the law's part. -/
import Derived.Test.YtlmighkbeacjnaaHG
open Go Go.Lg
set_option linter.unusedSimpArgs false
set_option linter.unusedVariables false
set_option maxHeartbeats 8000000
set_option maxRecDepth 20000
namespace Go.Proofs.Ytlmighkbeacjnaa
theorem own_turn {H : Heap} {S : Nat → Prop} {x : AV} {f : Fs} {e : Int} (h : Own H S x (.tuple [.agg f.cells, .int .i64 e])) : ∃ a, x = .tuple [.agg [a, .int .i64 f.h], .int .i64 e] ∧ Own H S a (.view (frRows f.l)) := by
  obtain ⟨xs, rfl, h1⟩ := h.tuple_inv
  obtain ⟨x1, r1, rfl, h2, h3⟩ := h1.cons_inv
  obtain ⟨x2, r2, rfl, h4, h5⟩ := h3.cons_inv
  obtain rfl := h5.nil_inv
  obtain rfl := h4.int_inv
  obtain ⟨a, rfl, ho⟩ := own_fs h2
  exact ⟨a, rfl, ho⟩
theorem lt_top {H : Heap} {k id : Nat} {b : Blk} (h : ∀ id, k ≤ id → H id = none) (hb : H id = some b) : id < k := by
  rcases Nat.lt_or_ge id k with hx | hx
  · exact hx
  · rw [h id hx] at hb; cases hb
def Small (f : Fs) : Prop := f.l.length ≤ 1000000 ∧ ∀ x, x ∈ f.l → x.d.length ≤ 1000000 ∧ x.pins.length ≤ 1000000
theorem look15 {H : Heap} {n : Nat} {S : Nat → Prop} {a : AV} {F : Fs} (hs : Small F) (ho : Own H S a (.view (frRows F.l))) : AC Try.prog 15 [.agg [a, .int .i64 F.h], .agg F.cells] H n (fun r h' n' => r = .ret (.bool true) ∧ h' = H ∧ n' = n) := by
  have h := pf15 F F hs.1 (fun x hx => (hs.2 x hx).2)
  rw [sameF_self] at h
  exact PF.look h (.bool _) _ _ (.cons (FzL.agg (.cons ho.fz (.cons (.pur (.int _ _)) .nil))) (.cons (.pur (fsa_pur F)) .nil))
theorem turn_small {c : Cf} {f : Fs} {a : Int} {E : Fr → Int} {V : Fr → Fr} (hl : f.l.length ≤ 1000000) (hd : ∀ x, x ∈ f.l → x.d.length ≤ 1000000 ∧ x.pins.length ≤ 1000000) (hv : ∀ u, u ∈ f.l → okF c f = true → (V u).d.length ≤ 1000000 ∧ (V u).pins.length ≤ 1000000) : Small (turnF c f a E V) := by
  unfold turnF
  split
  · rename_i h0
    have hok : okF c f = true := by
      cases hk : okF c f with
      | true => rfl
      | false => simp [turnE, hk] at h0
    split
    · rename_i u hu
      refine ⟨by rw [List.length_set]; exact hl, fun x hx => ?_⟩
      rcases List.mem_or_eq_of_mem_set hx with h | rfl
      · exact hd x h
      · exact hv u (List.mem_of_getElem? hu) hok
    · exact ⟨by simp, fun x hx => by simp at hx⟩
  · exact ⟨by simp, fun x hx => by simp at hx⟩
theorem args_5p {c : Cf} {f o : Fs} {a cl : Int} : ∀ x, x ∈ [AV.agg c.cells, .agg f.cells, .agg o.cells, .int .i64 a, .int .i64 cl] → Pur x := args_5 (cf_pur c) (fsa_pur f) (fsa_pur o) (.int _ _) (.int _ _)
theorem pf30 (c : Cf) (f : Fs) (at_ cl : Int) (hl : f.l.length ≤ 1000000) (hd : ∀ x, x ∈ f.l → x.d.length ≤ 1000000 ∧ x.pins.length ≤ 1000000) : PF Try.prog 30 [.agg c.cells, .agg f.cells, .agg f.cells, .int .i64 at_, .int .i64 cl] (fun r => r = .bool true) := by
  have n1 := nf42 c f at_ cl hl hd
  have f1 := pf68 c f at_ cl hl hd
  have n2 := nf43 c f at_ cl hl hd
  have f2 := pf69 c f at_ cl hl hd
  have hs1 : Small (turnF c f at_ (fun u => pinE c u cl) (fun u => pinV u cl)) := turn_small hl hd (fun u hu _ => ⟨(hd u hu).1, by simp only [pinV, List.length_set]; exact (hd u hu).2⟩)
  have hs2 : Small (turnF c f at_ (fun u => unpinE c u cl) (fun u => unpinV u cl)) := turn_small hl hd (fun u hu _ => ⟨(hd u hu).1, by simp only [unpinV, List.length_set]; exact (hd u hu).2⟩)
  generalize turnF c f at_ (fun u => pinE c u cl) (fun u => pinV u cl) = F1 at n1 f1 hs1
  generalize turnE c f at_ (fun u => pinE c u cl) = E1 at n1 f1
  generalize turnF c f at_ (fun u => unpinE c u cl) (fun u => unpinV u cl) = F2 at n2 f2 hs2
  generalize turnE c f at_ (fun u => unpinE c u cl) = E2 at n2 f2
  refine pf_of_w0 Try.func30 (c := _) rfl rfl (Nat.le_of_ble_eq_true rfl) args_5p ?_
  rw [show Try.f30.ntmps = 75 from rfl]
  have tE := And.intro (@upd_upd AV) <| And.intro (@upd_upd (Option Blk)) <| And.intro Cf.cells.eq_1 <| And.intro Fs.cells.eq_1 <| And.intro ty3 <| And.intro ty4 <| And.intro ty5 <| And.intro ty23 <| And.intro ty24 <| And.intro ty26 <| And.intro ty34 <| And.intro ty35 <| And.intro ty37 <| Try.results30; repeat' first | ((with_reducible first | apply w_seq | apply w_region | apply wl_nil | apply wr_nil | apply wr_nilA | apply wr_nilE | apply go_normal | apply go_ret | apply go_exit | apply blk_normal | apply blk_ret | apply blk_here | apply w_block | apply w_skip | apply w_exit | apply w_label)) | ((with_reducible first | apply wz (tok Try.prog) | apply wr_z (tok Try.prog)); exact zZ; decide) | fail
  all_goals try clear tE
  (have tE := And.intro (@upd_upd AV) <| And.intro (@upd_upd (Option Blk)) <| And.intro Cf.cells.eq_1 <| Fs.cells.eq_1; (with_reducible apply wacall); exact zV; exact zVs; exact zAs; exact n1.cal; (focus (with_unfolding_all exact n1.ac _ _)); decide; clear tE)
  rintro r H1 k1 ⟨hn1, hold1, htop1, x, y, rfl, hown1, rfl⟩
  obtain ⟨a1, rfl, o1_1⟩ := own_turn hown1
  clear hown1
  have hn1 : 0 ≤ k1 := hn1
  have o1_1 : Own H1 (fun id => 0 ≤ id ∧ id < k1) a1 (.view (frRows F1.l)) := o1_1.mv fun id b hid hb => ⟨⟨hid, lt_top htop1 hb⟩, hb⟩
  have z1 := (own_scal o1_1).1
  simp only [scalA] at z1
  have tE := And.intro (@upd_upd AV) <| And.intro (@upd_upd (Option Blk)) <| And.intro Cf.cells.eq_1 <| And.intro Fs.cells.eq_1 <| And.intro z1 <| And.intro ty3 <| And.intro ty4 <| And.intro ty5 <| And.intro ty23 <| And.intro ty24 <| And.intro ty26 <| And.intro ty34 <| And.intro ty35 <| And.intro ty37 <| Try.results30; repeat' first | ((with_reducible first | apply w_seq | apply w_region | apply wl_nil | apply wr_nil | apply wr_nilA | apply wr_nilE | apply go_normal | apply go_ret | apply go_exit | apply blk_normal | apply blk_ret | apply blk_here | apply w_block | apply w_skip | apply w_exit | apply w_label)) | ((with_reducible first | apply wz (tok Try.prog) | apply wr_z (tok Try.prog)); exact zZ; decide) | ((with_reducible first | apply w_alloc (tok Try.prog)); exact zT; decide) | ((with_reducible first | apply w_store (tok Try.prog)); exact zV; exact zV; exact zS) | ((with_reducible first | apply wcall' | apply wr_call); exact zV; exact zVs; exact zAs; (focus (with_unfolding_all first | exact f1)); decide) | fail
  all_goals try clear tE
  (have tE := And.intro (@upd_upd AV) <| And.intro (@upd_upd (Option Blk)) <| And.intro Cf.cells.eq_1 <| Fs.cells.eq_1; (with_reducible apply wacall); exact zV; exact zVs; exact zAs; exact n2.cal; (focus (with_unfolding_all exact n2.ac _ _)); decide; clear tE)
  rintro r H2 k2 ⟨hn2, hold2, htop2, x, y, rfl, hown2, rfl⟩
  obtain ⟨a2, rfl, o2_2⟩ := own_turn hown2
  clear hown2
  have hn2 : k1 + 2 ≤ k2 := hn2
  have o2_2 : Own H2 (fun id => k1 + 2 ≤ id ∧ id < k2) a2 (.view (frRows F2.l)) := o2_2.mv fun id b hid hb => ⟨⟨hid, lt_top htop2 hb⟩, hb⟩
  have e1_2 : H2 k1 = some (.cells [a1, .int .i64 F1.h] 26) := hold2 k1 _ (by rw [upd_ne _ _ (by omega), upd_same])
  have r1_2 : H2 (k1 + 1) = some (.cells F1.cells 26) := hold2 (k1 + 1) _ (by rw [upd_same]; rfl)
  have o1_2 : Own H2 (fun id => 0 ≤ id ∧ id < k1) a1 (.view (frRows F1.l)) := o1_1.mv fun id b hid hb => ⟨hid, hold2 id b (by rw [upd_ne _ _ (by omega), upd_ne _ _ (by omega)]; exact hb)⟩
  clear o1_1 hold2
  have z2 := (own_scal o2_2).1
  simp only [scalA] at z2
  obtain ⟨Hc, hHc⟩ : ∃ X, X = upd (upd H2 k2 (some (.cells [a2, .int .i64 F2.h] 26))) (k2 + 1) (some (.cells F2.cells 26)) := ⟨_, rfl⟩
  have hHc' : upd (upd H2 k2 (some (.cells [a2, .int .i64 F2.h] 26))) (k2 + 1) (some (.cells [.view (frRows F2.l), .int .i64 F2.h] 26)) = Hc := hHc.symm
  have keep : ∀ id b, id < k2 → H2 id = some b → Hc id = some b := fun id b hid hb => by rw [hHc, upd_ne _ _ (by omega), upd_ne _ _ (by omega)]; exact hb
  have e1 := keep k1 _ (by omega) e1_2
  have r1 := keep (k1 + 1) _ (by omega) r1_2
  have e2 : Hc k2 = some (.cells [a2, .int .i64 F2.h] 26) := by rw [hHc, upd_ne _ _ (by omega), upd_same]
  have r2 : Hc (k2 + 1) = some (.cells F2.cells 26) := by rw [hHc, upd_same]
  have o1 : Own Hc (fun id => 0 ≤ id ∧ id < k1) a1 (.view (frRows F1.l)) := o1_2.mv fun id b hid hb => ⟨hid, keep id b (by omega) hb⟩
  have w1 : AC Try.prog 15 [.agg [a1, .int .i64 F1.h], .agg F1.cells] Hc (k2 + 2) (fun r h' n' => r = .ret (.bool true) ∧ h' = Hc ∧ n' = k2 + 2) := look15 hs1 o1
  have o2 : Own Hc (fun id => k1 + 2 ≤ id ∧ id < k2) a2 (.view (frRows F2.l)) := o2_2.mv fun id b hid hb => ⟨hid, keep id b (by omega) hb⟩
  have w2 : AC Try.prog 15 [.agg [a2, .int .i64 F2.h], .agg F2.cells] Hc (k2 + 2) (fun r h' n' => r = .ret (.bool true) ∧ h' = Hc ∧ n' = k2 + 2) := look15 hs2 o2
  clear keep e1_2 r1_2 o1_2 o2_2
  have tE := And.intro (@upd_upd AV) <| And.intro (@upd_upd (Option Blk)) <| And.intro Cf.cells.eq_1 <| And.intro Fs.cells.eq_1 <| And.intro z2 <| And.intro hHc' <| And.intro e1 <| And.intro r1 <| And.intro e2 <| And.intro r2 <| And.intro ty3 <| And.intro ty4 <| And.intro ty5 <| And.intro ty23 <| And.intro ty24 <| And.intro ty26 <| And.intro ty34 <| And.intro ty35 <| And.intro ty37 <| Try.results30; repeat' first | ((with_reducible first | apply w_seq | apply w_region | apply wl_nil | apply wr_nil | apply wr_nilA | apply wr_nilE | apply go_normal | apply go_ret | apply go_exit | apply blk_normal | apply blk_ret | apply blk_here | apply w_block | apply w_skip | apply w_exit | apply w_label)) | ((with_reducible first | apply wz (tok Try.prog) | apply wr_z (tok Try.prog)); exact zZ; decide) | ((with_reducible first | apply wzg (tok Try.prog) | apply wr_zg (tok Try.prog)); exact zU; exact zL; exact zU; exact zZ; decide) | ((with_reducible first | apply w_alloc (tok Try.prog)); exact zT; decide) | ((with_reducible first | apply w_store (tok Try.prog)); exact zV; exact zV; exact zS) | ((with_reducible first | apply wcall' | apply wr_call); exact zV; exact zVs; exact zAs; (focus (with_unfolding_all first | exact f2)); decide) | ((with_reducible first | apply wacall'); exact zV; exact zVs; exact zAs; (focus (first | exact ⟨_, Try.func15, rfl, rfl⟩)); (focus (with_unfolding_all first | exact w1 | exact w2)); decide) | ((with_reducible first | apply wacallg'); exact zU; exact zL; exact zU; exact zV; exact zVs; exact zAs; (focus (first | exact ⟨_, Try.func15, rfl, rfl⟩)); (focus (with_unfolding_all first | exact w1 | exact w2)); decide) | fail
  all_goals try clear tE
  have s1 := ac29 F1.l F1.h a1 (fun id => 0 ≤ id ∧ id < k1) Hc (k2 + 2) o1 (fun id h => by omega) hs1.1 hs1.2
  (have tE := And.intro (@upd_upd AV) <| And.intro (@upd_upd (Option Blk)) <| And.intro Cf.cells.eq_1 <| Fs.cells.eq_1; (with_reducible apply wacall); exact zV; exact zVs; exact zAs; exact cal29; (focus (with_unfolding_all exact s1)); decide; clear tE)
  rintro r G1 g1 ⟨rfl, sp1, rfl⟩
  have kp1 : ∀ id, id < k2 + 2 → ¬ (0 ≤ id ∧ id < k1) → G1 id = Hc id := fun id hid hs => by rw [sp1.out id hs, upd_ne _ _ (by omega)]
  have e2 : G1 k2 = some (.cells [a2, .int .i64 F2.h] 26) := by rw [kp1 k2 (by omega) (by omega)]; exact e2
  have o2 : Own G1 (fun id => k1 + 2 ≤ id ∧ id < k2) a2 (.view (frRows F2.l)) := o2.mv fun id b hid hb => ⟨hid, by rw [kp1 id (by omega) (by omega)]; exact hb⟩
  clear kp1 sp1 s1
  have tE := And.intro (@upd_upd AV) <| And.intro (@upd_upd (Option Blk)) <| And.intro Cf.cells.eq_1 <| And.intro Fs.cells.eq_1 <| And.intro e2 <| And.intro ty3 <| And.intro ty4 <| And.intro ty5 <| And.intro ty23 <| And.intro ty24 <| And.intro ty26 <| And.intro ty34 <| And.intro ty35 <| And.intro ty37 <| Try.results30; repeat' first | ((with_reducible first | apply w_seq | apply w_region | apply wl_nil | apply wr_nil | apply wr_nilA | apply wr_nilE | apply go_normal | apply go_ret | apply go_exit | apply blk_normal | apply blk_ret | apply blk_here | apply w_block | apply w_skip | apply w_exit | apply w_label)) | ((with_reducible first | apply wz (tok Try.prog) | apply wr_z (tok Try.prog)); exact zZ; decide) | fail
  all_goals try clear tE
  have s2 := ac29 F2.l F2.h a2 (fun id => k1 + 2 ≤ id ∧ id < k2) G1 (k2 + 3) o2 (fun id h => by omega) hs2.1 hs2.2
  (have tE := And.intro (@upd_upd AV) <| And.intro (@upd_upd (Option Blk)) <| And.intro Cf.cells.eq_1 <| Fs.cells.eq_1; (with_reducible apply wacall); exact zV; exact zVs; exact zAs; exact cal29; (focus (with_unfolding_all exact s2)); decide; clear tE)
  rintro r G2 g2 ⟨rfl, sp2, rfl⟩
  have kp2 : ∀ id, id < k2 + 3 → ¬ (k1 + 2 ≤ id ∧ id < k2) → G2 id = G1 id := fun id hid hs => by rw [sp2.out id hs, upd_ne _ _ (by omega)]
  clear kp2 sp2 s2
  have tE := And.intro (@upd_upd AV) <| And.intro (@upd_upd (Option Blk)) <| And.intro Cf.cells.eq_1 <| And.intro Fs.cells.eq_1 <| And.intro ty3 <| And.intro ty4 <| And.intro ty5 <| And.intro ty23 <| And.intro ty24 <| And.intro ty26 <| And.intro ty34 <| And.intro ty35 <| And.intro ty37 <| Try.results30; repeat' first | ((with_reducible first | apply w_seq | apply w_region | apply wl_nil | apply wr_nil | apply wr_nilA | apply wr_nilE | apply go_normal | apply go_ret | apply go_exit | apply blk_normal | apply blk_ret | apply blk_here | apply w_block | apply w_skip | apply w_exit | apply w_label)) | ((with_reducible first | apply wz (tok Try.prog) | apply wr_z (tok Try.prog)); exact zZ; decide) | ((with_reducible apply w_ret); (repeat (with_reducible first | apply go_ret | apply blk_ret)); (with_reducible apply done_ret (tok Try.prog)); exact zT; exact zD; exact zX) | fail
  all_goals try clear tE
  rfl
end Go.Proofs.Ytlmighkbeacjnaa

