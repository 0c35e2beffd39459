/- FramesTurn: the law computes true. -/
import Derived.Test.YtlmighkbeacjnaaHH
open Go Go.Lg
set_option linter.unusedSimpArgs false
set_option linter.unusedVariables false
set_option maxHeartbeats 8000000
set_option maxRecDepth 20000
namespace Go.Proofs.Ytlmighkbeacjnaa
theorem g_sub {N : Nat} {σ : St} {d : Nat} {y : AV} (h : Sub (σ.tm d) y) : ∀ K a, SR K N σ a → ∃ K1, K1.w = K.w ∧ SR K1 N ⟨upd σ.tm d y, σ.h, σ.n, σ.df⟩ a ∧ Step K σ.h K1 σ.h :=
  fun K a hs => ⟨K, rfl, ⟨hs.next, hs.rel, ⟨hs.tr.1, fun t => by
    show VR K (upd σ.tm d y t) _
    by_cases e : t = d
    · subst e; rw [upd_same]; exact h K _ (hs.tr.2 t)
    · rw [upd_ne _ _ e]; exact hs.tr.2 t⟩, hs.dr⟩, .refl K _⟩
theorem args_t {c : Cf} {f : Fs} {a p cl : Int} {data : List UInt8} : ∀ x, x ∈ [AV.agg c.cells, .agg f.cells, .int .i64 a, .int .i64 p, .int .i64 cl, .view (byteRows data)] → Pur x := args_7
theorem pf5_great (c : Cf) (f : Fs) (at_ page cl : Int) (data : List UInt8) (hg : greatF f.l = true ∨ data.length > 100) : PF Try.prog 5 [.agg c.cells, .agg f.cells, .int .i64 at_, .int .i64 page, .int .i64 cl, .view (byteRows data)] (fun r => r = .bool true) := by
  refine pf_of_w0 Try.func5 (c := _) rfl rfl (Nat.le_of_ble_eq_true rfl) args_t ?_
  rw [show Try.f5.ntmps = 173 from rfl]
  cases hg1 : greatF f.l with
  | true =>
    have tE := And.intro (@upd_upd AV) <| And.intro (@upd_upd (Option Blk)) <| And.intro Cf.cells.eq_1 <| And.intro Fs.cells.eq_1 <| And.intro hg1 <| And.intro ty3 <| And.intro ty4 <| And.intro ty5 <| And.intro ty23 <| And.intro ty24 <| And.intro ty26 <| And.intro ty34 <| And.intro ty35 <| And.intro ty37 <| Try.results5; repeat' first | ((with_reducible first | apply w_seq | apply w_region | apply wl_nil | apply wr_nil | apply wr_nilA | apply wr_nilE | apply go_normal | apply go_ret | apply go_exit | apply blk_normal | apply blk_ret | apply blk_here | apply w_block | apply w_skip | apply w_exit | apply w_label)) | ((with_reducible first | apply wz (tok Try.prog) | apply wr_z (tok Try.prog)); exact zZ; decide) | ((with_reducible first | apply wskip' | apply wr_skip); exact zU; exact zL; exact zU; decide) | ((with_reducible first | apply wcall' | apply wr_call); exact zV; exact zVs; exact zAs; (focus (with_unfolding_all first | exact pf10 f)); decide) | ((with_reducible first | apply w_ift'); exact zV; exact zU) | ((with_reducible apply w_ret); (repeat (with_reducible first | apply go_ret | apply blk_ret)); (with_reducible apply done_ret (tok Try.prog)); exact zT; exact zD; exact zX) | fail
    all_goals try clear tE
    rfl
  | false =>
    have hd : ((data.length : Int) > 100) = True := by rw [hg1] at hg; simp at hg; simp; omega
    have tE := And.intro (@upd_upd AV) <| And.intro (@upd_upd (Option Blk)) <| And.intro Cf.cells.eq_1 <| And.intro Fs.cells.eq_1 <| And.intro hg1 <| And.intro hd <| And.intro byteRows_len <| And.intro ty3 <| And.intro ty4 <| And.intro ty5 <| And.intro ty23 <| And.intro ty24 <| And.intro ty26 <| And.intro ty34 <| And.intro ty35 <| And.intro ty37 <| Try.results5; repeat' first | ((with_reducible first | apply w_seq | apply w_region | apply wl_nil | apply wr_nil | apply wr_nilA | apply wr_nilE | apply go_normal | apply go_ret | apply go_exit | apply blk_normal | apply blk_ret | apply blk_here | apply w_block | apply w_skip | apply w_exit | apply w_label)) | ((with_reducible first | apply wz (tok Try.prog) | apply wr_z (tok Try.prog)); exact zZ; decide) | ((with_reducible first | apply wzg (tok Try.prog) | apply wr_zg (tok Try.prog)); exact zU; exact zL; exact zU; exact zZ; decide) | ((with_reducible first | apply wcall' | apply wr_call); exact zV; exact zVs; exact zAs; (focus (with_unfolding_all first | exact pf10 f)); decide) | ((with_reducible first | apply w_ift'); exact zV; exact zU) | ((with_reducible apply w_ret); (repeat (with_reducible first | apply go_ret | apply blk_ret)); (with_reducible apply done_ret (tok Try.prog)); exact zT; exact zD; exact zX) | fail
    all_goals try clear tE
    rfl
theorem pf5_main (c : Cf) (f : Fs) (at_ page cl : Int) (data : List UInt8) (hg : greatF f.l = false) (hdl : data.length ≤ 100) : PF Try.prog 5 [.agg c.cells, .agg f.cells, .int .i64 at_, .int .i64 page, .int .i64 cl, .view (byteRows data)] (fun r => r = .bool true) := by
  obtain ⟨hl0, hd0⟩ := great_small hg
  have hl : f.l.length ≤ 1000000 := by omega
  have hd : ∀ x, x ∈ f.l → x.d.length ≤ 1000000 ∧ x.pins.length ≤ 1000000 := fun x hx => by have := hd0 x hx; omega
  have h14 := (nf14 f hl hd).pf
  have h15 := pf15 f f hl (fun x hx => (hd x hx).2)
  rw [sameF_self] at h15
  have h20 := pf20 data data
  rw [decide_eq_true rfl] at h20
  have h30 := pf30 c f at_ cl hl hd
  have n1 := nf21 c f at_ page cl hl hd
  have f1 := pf22 c f at_ page cl hl hd
  have n2 := nf23 c f at_ data hl hd (by omega)
  have f2 := pf24 c f at_ data (by omega) hl hd
  have n3 := nf25 c f at_ data hl hd (by omega)
  have f3 := pf26 c f at_ data (by omega) hl hd
  have n4 := nf27 c f at_ hl hd
  have f4 := pf28 c f at_ hl hd
  have hs1 : Small (turnF c f at_ (fun u => loadE c f at_ page cl u) (fun u => loadV c page cl u)) := turn_small hl hd (fun u hu hok => by
    obtain ⟨cl1, cl2, cl3, _⟩ := ok_cl hok
    exact ⟨by simp [loadV], by simp [loadV]; omega⟩)
  have hs2 : Small (turnF c f at_ (fillE c data) (fillV data)) := turn_small hl hd (fun u hu _ => ⟨by simp only [fillV]; omega, (hd u hu).2⟩)
  have hs3 : Small (turnF c f at_ (writeE c data) (writeV data)) := turn_small hl hd (fun u hu _ => ⟨by simp only [writeV]; omega, (hd u hu).2⟩)
  have hs4 : Small (turnF c f at_ cleanE cleanV) := turn_small hl hd (fun u hu _ => hd u hu)
  generalize turnF c f at_ (fun u => loadE c f at_ page cl u) (fun u => loadV c page cl u) = F1 at n1 f1 hs1
  generalize turnE c f at_ (fun u => loadE c f at_ page cl u) = E1 at n1 f1
  generalize turnF c f at_ (fillE c data) (fillV data) = F2 at n2 f2 hs2
  generalize turnE c f at_ (fillE c data) = E2 at n2 f2
  generalize turnF c f at_ (writeE c data) (writeV data) = F3 at n3 f3 hs3
  generalize turnE c f at_ (writeE c data) = E3 at n3 f3
  generalize turnF c f at_ cleanE cleanV = F4 at n4 f4 hs4
  generalize turnE c f at_ cleanE = E4 at n4 f4
  refine pf_of_w0 Try.func5 (c := _) rfl rfl (Nat.le_of_ble_eq_true rfl) args_t ?_
  rw [show Try.f5.ntmps = 173 from rfl]
  cases data with
  | nil =>
    have ed : byteRows [] = [] := rfl
    have hdd : (((0 : Nat) : Int) > 100) = False := by simp
    have tE := And.intro (@upd_upd AV) <| And.intro (@upd_upd (Option Blk)) <| And.intro Cf.cells.eq_1 <| And.intro Fs.cells.eq_1 <| And.intro hg <| And.intro hdd <| And.intro ed <| And.intro ty3 <| And.intro ty4 <| And.intro ty5 <| And.intro ty23 <| And.intro ty24 <| And.intro ty26 <| And.intro ty34 <| And.intro ty35 <| And.intro ty37 <| Try.results5; repeat' first | ((with_reducible first | apply w_seq | apply w_region | apply wl_nil | apply wr_nil | apply wr_nilA | apply wr_nilE | apply go_normal | apply go_ret | apply go_exit | apply blk_normal | apply blk_ret | apply blk_here | apply w_block | apply w_skip | apply w_exit | apply w_label)) | ((with_reducible first | apply wz (tok Try.prog) | apply wr_z (tok Try.prog)); exact zZ; decide) | ((with_reducible first | apply wzg (tok Try.prog) | apply wr_zg (tok Try.prog)); exact zU; exact zL; exact zU; exact zZ; decide) | ((with_reducible first | apply w_alloc (tok Try.prog)); exact zT; decide) | ((with_reducible first | apply w_store (tok Try.prog)); exact zV; exact zV; exact zS) | ((with_reducible first | apply wcall' | apply wr_call); exact zV; exact zVs; exact zAs; (focus (with_unfolding_all first | exact pf10 f | exact h14)); decide) | ((with_reducible first | apply wp | apply wr_p); (focus (first | ((with_reducible first | apply p_slv (tok Try.prog)); exact zT; exact zU; exact zT; exact zV; exact zN; exact zN; (focus (first | exact zU | exact zB)); (focus (first | exact zU | exact zB)); (focus (first | exact zU | assumption))) | ((with_reducible first | apply p_slo (tok Try.prog)); exact zT; exact zU; exact zT; exact zV; exact zN; exact zN; (focus (first | exact zU | exact zB)); (focus (first | exact zU | exact zB)); (focus (first | exact zU | assumption))) | ((with_reducible first | apply p_nil (tok Try.prog) | apply p_nnil (tok Try.prog)); exact zT; exact zV; exact zU) | ((with_reducible first | apply p_bs0 (tok Try.prog)); exact zT; exact zU; exact zT) | ((with_reducible first | apply p_ap0 (tok Try.prog)); exact zT; exact zU; exact zT; exact zT; exact zU; exact zA; exact zV; (focus (first | exact Or.inl rfl | exact Or.inr rfl))) | ((with_reducible first | apply p_bytes (tok Try.prog)); exact zT; exact zU; exact zT; exact zU; exact zT; exact zU; exact zV))); decide) | ((with_reducible first | apply w_iff'); exact zV; exact zU) | fail
    all_goals try clear tE
    refine wl_ghost (g_sub (d := 14) (y := .view (byteRows [])) Sub.empty) ?_
    (have tE := And.intro (@upd_upd AV) <| And.intro (@upd_upd (Option Blk)) <| And.intro Cf.cells.eq_1 <| And.intro Fs.cells.eq_1 <| And.intro hg <| And.intro hdd <| ed; (with_reducible apply wacall); exact zV; exact zVs; exact zAs; exact n1.cal; (focus (with_unfolding_all exact n1.ac _ _)); decide; clear tE)
    rintro r H1 k1 ⟨hn1, hold1, htop1, x, y, rfl, hown1, rfl⟩
    obtain ⟨a1, rfl, o1_1⟩ := own_turn hown1
    clear hown1
    have hn1 : 1 ≤ k1 := hn1
    have o1_1 : Own H1 (fun id => 1 ≤ id ∧ id < k1) a1 (.view (frRows F1.l)) := o1_1.mv fun id b hid hb => ⟨⟨hid, lt_top htop1 hb⟩, hb⟩
    have bx_1 : H1 0 = some (.cells f.cells 26) := hold1 0 _ rfl
    have z1 := (own_scal o1_1).1
    simp only [scalA] at z1
    have px_1 : ((0 : Nat) == k1) = false := by rw [beq_eq_false_iff_ne]; omega
    have qx_1 : ((0 : Nat) == k1 + 1) = false := by rw [beq_eq_false_iff_ne]; omega
    have tE := And.intro (@upd_upd AV) <| And.intro (@upd_upd (Option Blk)) <| And.intro Cf.cells.eq_1 <| And.intro Fs.cells.eq_1 <| And.intro hg <| And.intro hdd <| And.intro ed <| And.intro z1 <| And.intro bx_1 <| And.intro px_1 <| And.intro qx_1 <| And.intro ty3 <| And.intro ty4 <| And.intro ty5 <| And.intro ty23 <| And.intro ty24 <| And.intro ty26 <| And.intro ty34 <| And.intro ty35 <| And.intro ty37 <| Try.results5; repeat' first | ((with_reducible first | apply w_seq | apply w_region | apply wl_nil | apply wr_nil | apply wr_nilA | apply wr_nilE | apply go_normal | apply go_ret | apply go_exit | apply blk_normal | apply blk_ret | apply blk_here | apply w_block | apply w_skip | apply w_exit | apply w_label)) | ((with_reducible first | apply wz (tok Try.prog) | apply wr_z (tok Try.prog)); exact zZ; decide) | ((with_reducible first | apply w_alloc (tok Try.prog)); exact zT; decide) | ((with_reducible first | apply w_store (tok Try.prog)); exact zV; exact zV; exact zS) | ((with_reducible first | apply wcall' | apply wr_call); exact zV; exact zVs; exact zAs; (focus (with_unfolding_all first | exact f1)); decide) | fail
    all_goals try clear tE
    (have tE := And.intro (@upd_upd AV) <| And.intro (@upd_upd (Option Blk)) <| And.intro Cf.cells.eq_1 <| And.intro Fs.cells.eq_1 <| And.intro hg <| And.intro hdd <| ed; (with_reducible apply wacall); exact zV; exact zVs; exact zAs; exact n2.cal; (focus (with_unfolding_all exact n2.ac _ _)); decide; clear tE)
    rintro r H2 k2 ⟨hn2, hold2, htop2, x, y, rfl, hown2, rfl⟩
    obtain ⟨a2, rfl, o2_2⟩ := own_turn hown2
    clear hown2
    have hn2 : k1 + 2 ≤ k2 := hn2
    have o2_2 : Own H2 (fun id => k1 + 2 ≤ id ∧ id < k2) a2 (.view (frRows F2.l)) := o2_2.mv fun id b hid hb => ⟨⟨hid, lt_top htop2 hb⟩, hb⟩
    have bx_2 : H2 0 = some (.cells f.cells 26) := hold2 0 _ (by rw [upd_ne _ _ (by omega), upd_ne _ _ (by omega)]; exact bx_1)
    have e1_2 : H2 k1 = some (.cells [a1, .int .i64 F1.h] 26) := hold2 k1 _ (by rw [upd_ne _ _ (by omega), upd_same])
    have r1_2 : H2 (k1 + 1) = some (.cells F1.cells 26) := hold2 (k1 + 1) _ (by rw [upd_same]; rfl)
    have o1_2 : Own H2 (fun id => 1 ≤ id ∧ id < k1) a1 (.view (frRows F1.l)) := o1_1.mv fun id b hid hb => ⟨hid, hold2 id b (by rw [upd_ne _ _ (by omega), upd_ne _ _ (by omega)]; exact hb)⟩
    clear bx_1 o1_1 hold2
    have z2 := (own_scal o2_2).1
    simp only [scalA] at z2
    have px_2 : ((0 : Nat) == k2) = false := by rw [beq_eq_false_iff_ne]; omega
    have qx_2 : ((0 : Nat) == k2 + 1) = false := by rw [beq_eq_false_iff_ne]; omega
    have tE := And.intro (@upd_upd AV) <| And.intro (@upd_upd (Option Blk)) <| And.intro Cf.cells.eq_1 <| And.intro Fs.cells.eq_1 <| And.intro hg <| And.intro hdd <| And.intro ed <| And.intro z2 <| And.intro bx_2 <| And.intro px_2 <| And.intro qx_2 <| And.intro ty3 <| And.intro ty4 <| And.intro ty5 <| And.intro ty23 <| And.intro ty24 <| And.intro ty26 <| And.intro ty34 <| And.intro ty35 <| And.intro ty37 <| Try.results5; repeat' first | ((with_reducible first | apply w_seq | apply w_region | apply wl_nil | apply wr_nil | apply wr_nilA | apply wr_nilE | apply go_normal | apply go_ret | apply go_exit | apply blk_normal | apply blk_ret | apply blk_here | apply w_block | apply w_skip | apply w_exit | apply w_label)) | ((with_reducible first | apply wz (tok Try.prog) | apply wr_z (tok Try.prog)); exact zZ; decide) | ((with_reducible first | apply w_alloc (tok Try.prog)); exact zT; decide) | ((with_reducible first | apply w_store (tok Try.prog)); exact zV; exact zV; exact zS) | ((with_reducible first | apply wcall' | apply wr_call); exact zV; exact zVs; exact zAs; (focus (with_unfolding_all first | exact f2)); decide) | fail
    all_goals try clear tE
    (have tE := And.intro (@upd_upd AV) <| And.intro (@upd_upd (Option Blk)) <| And.intro Cf.cells.eq_1 <| And.intro Fs.cells.eq_1 <| And.intro hg <| And.intro hdd <| ed; (with_reducible apply wacall); exact zV; exact zVs; exact zAs; exact n3.cal; (focus (with_unfolding_all exact n3.ac _ _)); decide; clear tE)
    rintro r H3 k3 ⟨hn3, hold3, htop3, x, y, rfl, hown3, rfl⟩
    obtain ⟨a3, rfl, o3_3⟩ := own_turn hown3
    clear hown3
    have hn3 : k2 + 2 ≤ k3 := hn3
    have o3_3 : Own H3 (fun id => k2 + 2 ≤ id ∧ id < k3) a3 (.view (frRows F3.l)) := o3_3.mv fun id b hid hb => ⟨⟨hid, lt_top htop3 hb⟩, hb⟩
    have bx_3 : H3 0 = some (.cells f.cells 26) := hold3 0 _ (by rw [upd_ne _ _ (by omega), upd_ne _ _ (by omega)]; exact bx_2)
    have e1_3 : H3 k1 = some (.cells [a1, .int .i64 F1.h] 26) := hold3 k1 _ (by rw [upd_ne _ _ (by omega), upd_ne _ _ (by omega)]; exact e1_2)
    have r1_3 : H3 (k1 + 1) = some (.cells F1.cells 26) := hold3 (k1 + 1) _ (by rw [upd_ne _ _ (by omega), upd_ne _ _ (by omega)]; exact r1_2)
    have e2_3 : H3 k2 = some (.cells [a2, .int .i64 F2.h] 26) := hold3 k2 _ (by rw [upd_ne _ _ (by omega), upd_same])
    have r2_3 : H3 (k2 + 1) = some (.cells F2.cells 26) := hold3 (k2 + 1) _ (by rw [upd_same]; rfl)
    have o1_3 : Own H3 (fun id => 1 ≤ id ∧ id < k1) a1 (.view (frRows F1.l)) := o1_2.mv fun id b hid hb => ⟨hid, hold3 id b (by rw [upd_ne _ _ (by omega), upd_ne _ _ (by omega)]; exact hb)⟩
    have o2_3 : Own H3 (fun id => k1 + 2 ≤ id ∧ id < k2) a2 (.view (frRows F2.l)) := o2_2.mv fun id b hid hb => ⟨hid, hold3 id b (by rw [upd_ne _ _ (by omega), upd_ne _ _ (by omega)]; exact hb)⟩
    clear bx_2 e1_2 r1_2 o1_2 o2_2 hold3
    have z3 := (own_scal o3_3).1
    simp only [scalA] at z3
    have px_3 : ((0 : Nat) == k3) = false := by rw [beq_eq_false_iff_ne]; omega
    have qx_3 : ((0 : Nat) == k3 + 1) = false := by rw [beq_eq_false_iff_ne]; omega
    have tE := And.intro (@upd_upd AV) <| And.intro (@upd_upd (Option Blk)) <| And.intro Cf.cells.eq_1 <| And.intro Fs.cells.eq_1 <| And.intro hg <| And.intro hdd <| And.intro ed <| And.intro z3 <| And.intro bx_3 <| And.intro px_3 <| And.intro qx_3 <| And.intro ty3 <| And.intro ty4 <| And.intro ty5 <| And.intro ty23 <| And.intro ty24 <| And.intro ty26 <| And.intro ty34 <| And.intro ty35 <| And.intro ty37 <| Try.results5; repeat' first | ((with_reducible first | apply w_seq | apply w_region | apply wl_nil | apply wr_nil | apply wr_nilA | apply wr_nilE | apply go_normal | apply go_ret | apply go_exit | apply blk_normal | apply blk_ret | apply blk_here | apply w_block | apply w_skip | apply w_exit | apply w_label)) | ((with_reducible first | apply wz (tok Try.prog) | apply wr_z (tok Try.prog)); exact zZ; decide) | ((with_reducible first | apply w_alloc (tok Try.prog)); exact zT; decide) | ((with_reducible first | apply w_store (tok Try.prog)); exact zV; exact zV; exact zS) | ((with_reducible first | apply wcall' | apply wr_call); exact zV; exact zVs; exact zAs; (focus (with_unfolding_all first | exact f3)); decide) | fail
    all_goals try clear tE
    (have tE := And.intro (@upd_upd AV) <| And.intro (@upd_upd (Option Blk)) <| And.intro Cf.cells.eq_1 <| And.intro Fs.cells.eq_1 <| And.intro hg <| And.intro hdd <| ed; (with_reducible apply wacall); exact zV; exact zVs; exact zAs; exact n4.cal; (focus (with_unfolding_all exact n4.ac _ _)); decide; clear tE)
    rintro r H4 k4 ⟨hn4, hold4, htop4, x, y, rfl, hown4, rfl⟩
    obtain ⟨a4, rfl, o4_4⟩ := own_turn hown4
    clear hown4
    have hn4 : k3 + 2 ≤ k4 := hn4
    have o4_4 : Own H4 (fun id => k3 + 2 ≤ id ∧ id < k4) a4 (.view (frRows F4.l)) := o4_4.mv fun id b hid hb => ⟨⟨hid, lt_top htop4 hb⟩, hb⟩
    have bx_4 : H4 0 = some (.cells f.cells 26) := hold4 0 _ (by rw [upd_ne _ _ (by omega), upd_ne _ _ (by omega)]; exact bx_3)
    have e1_4 : H4 k1 = some (.cells [a1, .int .i64 F1.h] 26) := hold4 k1 _ (by rw [upd_ne _ _ (by omega), upd_ne _ _ (by omega)]; exact e1_3)
    have r1_4 : H4 (k1 + 1) = some (.cells F1.cells 26) := hold4 (k1 + 1) _ (by rw [upd_ne _ _ (by omega), upd_ne _ _ (by omega)]; exact r1_3)
    have e2_4 : H4 k2 = some (.cells [a2, .int .i64 F2.h] 26) := hold4 k2 _ (by rw [upd_ne _ _ (by omega), upd_ne _ _ (by omega)]; exact e2_3)
    have r2_4 : H4 (k2 + 1) = some (.cells F2.cells 26) := hold4 (k2 + 1) _ (by rw [upd_ne _ _ (by omega), upd_ne _ _ (by omega)]; exact r2_3)
    have e3_4 : H4 k3 = some (.cells [a3, .int .i64 F3.h] 26) := hold4 k3 _ (by rw [upd_ne _ _ (by omega), upd_same])
    have r3_4 : H4 (k3 + 1) = some (.cells F3.cells 26) := hold4 (k3 + 1) _ (by rw [upd_same]; rfl)
    have o1_4 : Own H4 (fun id => 1 ≤ id ∧ id < k1) a1 (.view (frRows F1.l)) := o1_3.mv fun id b hid hb => ⟨hid, hold4 id b (by rw [upd_ne _ _ (by omega), upd_ne _ _ (by omega)]; exact hb)⟩
    have o2_4 : Own H4 (fun id => k1 + 2 ≤ id ∧ id < k2) a2 (.view (frRows F2.l)) := o2_3.mv fun id b hid hb => ⟨hid, hold4 id b (by rw [upd_ne _ _ (by omega), upd_ne _ _ (by omega)]; exact hb)⟩
    have o3_4 : Own H4 (fun id => k2 + 2 ≤ id ∧ id < k3) a3 (.view (frRows F3.l)) := o3_3.mv fun id b hid hb => ⟨hid, hold4 id b (by rw [upd_ne _ _ (by omega), upd_ne _ _ (by omega)]; exact hb)⟩
    clear bx_3 e1_3 r1_3 e2_3 r2_3 o1_3 o2_3 o3_3 hold4
    have z4 := (own_scal o4_4).1
    simp only [scalA] at z4
    have px_4 : ((0 : Nat) == k4) = false := by rw [beq_eq_false_iff_ne]; omega
    have qx_4 : ((0 : Nat) == k4 + 1) = false := by rw [beq_eq_false_iff_ne]; omega
    obtain ⟨Hc, hHc⟩ : ∃ X, X = upd (upd H4 k4 (some (.cells [a4, .int .i64 F4.h] 26))) (k4 + 1) (some (.cells F4.cells 26)) := ⟨_, rfl⟩
    have hHc' : upd (upd H4 k4 (some (.cells [a4, .int .i64 F4.h] 26))) (k4 + 1) (some (.cells [.view (frRows F4.l), .int .i64 F4.h] 26)) = Hc := hHc.symm
    have keep : ∀ id b, id < k4 → H4 id = some b → Hc id = some b := fun id b hid hb => by rw [hHc, upd_ne _ _ (by omega), upd_ne _ _ (by omega)]; exact hb
    have bx := keep 0 _ (by omega) bx_4
    have e1 := keep k1 _ (by omega) e1_4
    have r1 := keep (k1 + 1) _ (by omega) r1_4
    have e2 := keep k2 _ (by omega) e2_4
    have r2 := keep (k2 + 1) _ (by omega) r2_4
    have e3 := keep k3 _ (by omega) e3_4
    have r3 := keep (k3 + 1) _ (by omega) r3_4
    have e4 : Hc k4 = some (.cells [a4, .int .i64 F4.h] 26) := by rw [hHc, upd_ne _ _ (by omega), upd_same]
    have r4 : Hc (k4 + 1) = some (.cells F4.cells 26) := by rw [hHc, upd_same]
    have o1 : Own Hc (fun id => 1 ≤ id ∧ id < k1) a1 (.view (frRows F1.l)) := o1_4.mv fun id b hid hb => ⟨hid, keep id b (by omega) hb⟩
    have w1 : AC Try.prog 15 [.agg [a1, .int .i64 F1.h], .agg F1.cells] Hc (k4 + 2) (fun r h' n' => r = .ret (.bool true) ∧ h' = Hc ∧ n' = k4 + 2) := look15 hs1 o1
    have o2 : Own Hc (fun id => k1 + 2 ≤ id ∧ id < k2) a2 (.view (frRows F2.l)) := o2_4.mv fun id b hid hb => ⟨hid, keep id b (by omega) hb⟩
    have w2 : AC Try.prog 15 [.agg [a2, .int .i64 F2.h], .agg F2.cells] Hc (k4 + 2) (fun r h' n' => r = .ret (.bool true) ∧ h' = Hc ∧ n' = k4 + 2) := look15 hs2 o2
    have o3 : Own Hc (fun id => k2 + 2 ≤ id ∧ id < k3) a3 (.view (frRows F3.l)) := o3_4.mv fun id b hid hb => ⟨hid, keep id b (by omega) hb⟩
    have w3 : AC Try.prog 15 [.agg [a3, .int .i64 F3.h], .agg F3.cells] Hc (k4 + 2) (fun r h' n' => r = .ret (.bool true) ∧ h' = Hc ∧ n' = k4 + 2) := look15 hs3 o3
    have o4 : Own Hc (fun id => k3 + 2 ≤ id ∧ id < k4) a4 (.view (frRows F4.l)) := o4_4.mv fun id b hid hb => ⟨hid, keep id b (by omega) hb⟩
    have w4 : AC Try.prog 15 [.agg [a4, .int .i64 F4.h], .agg F4.cells] Hc (k4 + 2) (fun r h' n' => r = .ret (.bool true) ∧ h' = Hc ∧ n' = k4 + 2) := look15 hs4 o4
    clear keep bx_4 e1_4 r1_4 e2_4 r2_4 e3_4 r3_4 o1_4 o2_4 o3_4 o4_4
    have tE := And.intro (@upd_upd AV) <| And.intro (@upd_upd (Option Blk)) <| And.intro Cf.cells.eq_1 <| And.intro Fs.cells.eq_1 <| And.intro hg <| And.intro hdd <| And.intro ed <| And.intro z4 <| And.intro hHc' <| And.intro bx <| And.intro e1 <| And.intro r1 <| And.intro e2 <| And.intro r2 <| And.intro e3 <| And.intro r3 <| And.intro e4 <| And.intro r4 <| And.intro px_4 <| And.intro qx_4 <| And.intro ty3 <| And.intro ty4 <| And.intro ty5 <| And.intro ty23 <| And.intro ty24 <| And.intro ty26 <| And.intro ty34 <| And.intro ty35 <| And.intro ty37 <| Try.results5; repeat' first | ((with_reducible first | apply w_seq | apply w_region | apply wl_nil | apply wr_nil | apply wr_nilA | apply wr_nilE | apply go_normal | apply go_ret | apply go_exit | apply blk_normal | apply blk_ret | apply blk_here | apply w_block | apply w_skip | apply w_exit | apply w_label)) | ((with_reducible first | apply wz (tok Try.prog) | apply wr_z (tok Try.prog)); exact zZ; decide) | ((with_reducible first | apply wzg (tok Try.prog) | apply wr_zg (tok Try.prog)); exact zU; exact zL; exact zU; exact zZ; decide) | ((with_reducible first | apply w_alloc (tok Try.prog)); exact zT; decide) | ((with_reducible first | apply w_store (tok Try.prog)); exact zV; exact zV; exact zS) | ((with_reducible first | apply wcall' | apply wr_call); exact zV; exact zVs; exact zAs; (focus (with_unfolding_all first | exact f4)); decide) | ((with_reducible first | apply wacall'); exact zV; exact zVs; exact zAs; (focus (first | exact ⟨_, Try.func15, rfl, rfl⟩)); (focus (with_unfolding_all first | exact w1 | exact w2 | exact w3 | exact w4)); decide) | ((with_reducible first | apply wacallg'); exact zU; exact zL; exact zU; exact zV; exact zVs; exact zAs; (focus (first | exact ⟨_, Try.func15, rfl, rfl⟩)); (focus (with_unfolding_all first | exact w1 | exact w2 | exact w3 | exact w4)); decide) | fail
    all_goals try clear tE
    have s1 := ac29 F1.l F1.h a1 (fun id => 1 ≤ id ∧ id < k1) Hc (k4 + 2) o1 (fun id h => by omega) hs1.1 hs1.2
    (have tE := And.intro (@upd_upd AV) <| And.intro (@upd_upd (Option Blk)) <| And.intro Cf.cells.eq_1 <| And.intro Fs.cells.eq_1 <| And.intro hg <| And.intro hdd <| ed; (with_reducible apply wacall); exact zV; exact zVs; exact zAs; exact cal29; (focus (with_unfolding_all exact s1)); decide; clear tE)
    rintro r G1 g1 ⟨rfl, sp1, rfl⟩
    have kp1 : ∀ id, id < k4 + 2 → ¬ (1 ≤ id ∧ id < k1) → G1 id = Hc id := fun id hid hs => by rw [sp1.out id hs, upd_ne _ _ (by omega)]
    have bx : G1 0 = some (.cells f.cells 26) := by rw [kp1 0 (by omega) (by omega)]; exact bx
    have e2 : G1 k2 = some (.cells [a2, .int .i64 F2.h] 26) := by rw [kp1 k2 (by omega) (by omega)]; exact e2
    have o2 : Own G1 (fun id => k1 + 2 ≤ id ∧ id < k2) a2 (.view (frRows F2.l)) := o2.mv fun id b hid hb => ⟨hid, by rw [kp1 id (by omega) (by omega)]; exact hb⟩
    have e3 : G1 k3 = some (.cells [a3, .int .i64 F3.h] 26) := by rw [kp1 k3 (by omega) (by omega)]; exact e3
    have o3 : Own G1 (fun id => k2 + 2 ≤ id ∧ id < k3) a3 (.view (frRows F3.l)) := o3.mv fun id b hid hb => ⟨hid, by rw [kp1 id (by omega) (by omega)]; exact hb⟩
    have e4 : G1 k4 = some (.cells [a4, .int .i64 F4.h] 26) := by rw [kp1 k4 (by omega) (by omega)]; exact e4
    have o4 : Own G1 (fun id => k3 + 2 ≤ id ∧ id < k4) a4 (.view (frRows F4.l)) := o4.mv fun id b hid hb => ⟨hid, by rw [kp1 id (by omega) (by omega)]; exact hb⟩
    clear kp1 sp1 s1
    have tE := And.intro (@upd_upd AV) <| And.intro (@upd_upd (Option Blk)) <| And.intro Cf.cells.eq_1 <| And.intro Fs.cells.eq_1 <| And.intro hg <| And.intro hdd <| And.intro ed <| And.intro e2 <| And.intro ty3 <| And.intro ty4 <| And.intro ty5 <| And.intro ty23 <| And.intro ty24 <| And.intro ty26 <| And.intro ty34 <| And.intro ty35 <| And.intro ty37 <| Try.results5; repeat' first | ((with_reducible first | apply w_seq | apply w_region | apply wl_nil | apply wr_nil | apply wr_nilA | apply wr_nilE | apply go_normal | apply go_ret | apply go_exit | apply blk_normal | apply blk_ret | apply blk_here | apply w_block | apply w_skip | apply w_exit | apply w_label)) | ((with_reducible first | apply wz (tok Try.prog) | apply wr_z (tok Try.prog)); exact zZ; decide) | fail
    all_goals try clear tE
    have s2 := ac29 F2.l F2.h a2 (fun id => k1 + 2 ≤ id ∧ id < k2) G1 (k4 + 3) o2 (fun id h => by omega) hs2.1 hs2.2
    (have tE := And.intro (@upd_upd AV) <| And.intro (@upd_upd (Option Blk)) <| And.intro Cf.cells.eq_1 <| And.intro Fs.cells.eq_1 <| And.intro hg <| And.intro hdd <| ed; (with_reducible apply wacall); exact zV; exact zVs; exact zAs; exact cal29; (focus (with_unfolding_all exact s2)); decide; clear tE)
    rintro r G2 g2 ⟨rfl, sp2, rfl⟩
    have kp2 : ∀ id, id < k4 + 3 → ¬ (k1 + 2 ≤ id ∧ id < k2) → G2 id = G1 id := fun id hid hs => by rw [sp2.out id hs, upd_ne _ _ (by omega)]
    have bx : G2 0 = some (.cells f.cells 26) := by rw [kp2 0 (by omega) (by omega)]; exact bx
    have e3 : G2 k3 = some (.cells [a3, .int .i64 F3.h] 26) := by rw [kp2 k3 (by omega) (by omega)]; exact e3
    have o3 : Own G2 (fun id => k2 + 2 ≤ id ∧ id < k3) a3 (.view (frRows F3.l)) := o3.mv fun id b hid hb => ⟨hid, by rw [kp2 id (by omega) (by omega)]; exact hb⟩
    have e4 : G2 k4 = some (.cells [a4, .int .i64 F4.h] 26) := by rw [kp2 k4 (by omega) (by omega)]; exact e4
    have o4 : Own G2 (fun id => k3 + 2 ≤ id ∧ id < k4) a4 (.view (frRows F4.l)) := o4.mv fun id b hid hb => ⟨hid, by rw [kp2 id (by omega) (by omega)]; exact hb⟩
    clear kp2 sp2 s2
    have tE := And.intro (@upd_upd AV) <| And.intro (@upd_upd (Option Blk)) <| And.intro Cf.cells.eq_1 <| And.intro Fs.cells.eq_1 <| And.intro hg <| And.intro hdd <| And.intro ed <| And.intro e3 <| And.intro ty3 <| And.intro ty4 <| And.intro ty5 <| And.intro ty23 <| And.intro ty24 <| And.intro ty26 <| And.intro ty34 <| And.intro ty35 <| And.intro ty37 <| Try.results5; repeat' first | ((with_reducible first | apply w_seq | apply w_region | apply wl_nil | apply wr_nil | apply wr_nilA | apply wr_nilE | apply go_normal | apply go_ret | apply go_exit | apply blk_normal | apply blk_ret | apply blk_here | apply w_block | apply w_skip | apply w_exit | apply w_label)) | ((with_reducible first | apply wz (tok Try.prog) | apply wr_z (tok Try.prog)); exact zZ; decide) | fail
    all_goals try clear tE
    have s3 := ac29 F3.l F3.h a3 (fun id => k2 + 2 ≤ id ∧ id < k3) G2 (k4 + 4) o3 (fun id h => by omega) hs3.1 hs3.2
    (have tE := And.intro (@upd_upd AV) <| And.intro (@upd_upd (Option Blk)) <| And.intro Cf.cells.eq_1 <| And.intro Fs.cells.eq_1 <| And.intro hg <| And.intro hdd <| ed; (with_reducible apply wacall); exact zV; exact zVs; exact zAs; exact cal29; (focus (with_unfolding_all exact s3)); decide; clear tE)
    rintro r G3 g3 ⟨rfl, sp3, rfl⟩
    have kp3 : ∀ id, id < k4 + 4 → ¬ (k2 + 2 ≤ id ∧ id < k3) → G3 id = G2 id := fun id hid hs => by rw [sp3.out id hs, upd_ne _ _ (by omega)]
    have bx : G3 0 = some (.cells f.cells 26) := by rw [kp3 0 (by omega) (by omega)]; exact bx
    have e4 : G3 k4 = some (.cells [a4, .int .i64 F4.h] 26) := by rw [kp3 k4 (by omega) (by omega)]; exact e4
    have o4 : Own G3 (fun id => k3 + 2 ≤ id ∧ id < k4) a4 (.view (frRows F4.l)) := o4.mv fun id b hid hb => ⟨hid, by rw [kp3 id (by omega) (by omega)]; exact hb⟩
    clear kp3 sp3 s3
    have tE := And.intro (@upd_upd AV) <| And.intro (@upd_upd (Option Blk)) <| And.intro Cf.cells.eq_1 <| And.intro Fs.cells.eq_1 <| And.intro hg <| And.intro hdd <| And.intro ed <| And.intro e4 <| And.intro ty3 <| And.intro ty4 <| And.intro ty5 <| And.intro ty23 <| And.intro ty24 <| And.intro ty26 <| And.intro ty34 <| And.intro ty35 <| And.intro ty37 <| Try.results5; repeat' first | ((with_reducible first | apply w_seq | apply w_region | apply wl_nil | apply wr_nil | apply wr_nilA | apply wr_nilE | apply go_normal | apply go_ret | apply go_exit | apply blk_normal | apply blk_ret | apply blk_here | apply w_block | apply w_skip | apply w_exit | apply w_label)) | ((with_reducible first | apply wz (tok Try.prog) | apply wr_z (tok Try.prog)); exact zZ; decide) | fail
    all_goals try clear tE
    have s4 := ac29 F4.l F4.h a4 (fun id => k3 + 2 ≤ id ∧ id < k4) G3 (k4 + 5) o4 (fun id h => by omega) hs4.1 hs4.2
    (have tE := And.intro (@upd_upd AV) <| And.intro (@upd_upd (Option Blk)) <| And.intro Cf.cells.eq_1 <| And.intro Fs.cells.eq_1 <| And.intro hg <| And.intro hdd <| ed; (with_reducible apply wacall); exact zV; exact zVs; exact zAs; exact cal29; (focus (with_unfolding_all exact s4)); decide; clear tE)
    rintro r G4 g4 ⟨rfl, sp4, rfl⟩
    have kp4 : ∀ id, id < k4 + 5 → ¬ (k3 + 2 ≤ id ∧ id < k4) → G4 id = G3 id := fun id hid hs => by rw [sp4.out id hs, upd_ne _ _ (by omega)]
    have bx : G4 0 = some (.cells f.cells 26) := by rw [kp4 0 (by omega) (by omega)]; exact bx
    clear kp4 sp4 s4
    have tE := And.intro (@upd_upd AV) <| And.intro (@upd_upd (Option Blk)) <| And.intro Cf.cells.eq_1 <| And.intro Fs.cells.eq_1 <| And.intro bx <| And.intro ty3 <| And.intro ty4 <| And.intro ty5 <| And.intro ty23 <| And.intro ty24 <| And.intro ty26 <| And.intro ty34 <| And.intro ty35 <| And.intro ty37 <| Try.results5; repeat' first | ((with_reducible first | apply w_seq | apply w_region | apply wl_nil | apply wr_nil | apply wr_nilA | apply wr_nilE | apply go_normal | apply go_ret | apply go_exit | apply blk_normal | apply blk_ret | apply blk_here | apply w_block | apply w_skip | apply w_exit | apply w_label)) | ((with_reducible first | apply wz (tok Try.prog) | apply wr_z (tok Try.prog)); exact zZ; decide) | ((with_reducible first | apply wzg (tok Try.prog) | apply wr_zg (tok Try.prog)); exact zU; exact zL; exact zU; exact zZ; decide) | ((with_reducible first | apply wcallg' | apply wr_callg); exact zU; exact zL; exact zU; exact zV; exact zVs; exact zAs; (focus (with_unfolding_all first | exact h30 | exact h15 | exact h20)); decide) | ((with_reducible apply w_ret); (repeat (with_reducible first | apply go_ret | apply blk_ret)); (with_reducible apply done_ret (tok Try.prog)); exact zT; exact zD; exact zX) | fail
    all_goals try clear tE
    rfl
  | cons x data =>
    have hld := byteRows_len (x :: data)
    rw [List.length_cons] at hld
    simp only [List.length_cons] at hdl
    have hdd : (((data.length + 1 : Nat) : Int) > 100) = False := by simp; omega
    have hrd := byteRows_row (x :: data)
    have hch : chunk 1 (data.length + 1) (List.drop 0 (byteRows (x :: data)).flatten) = byteRows (x :: data) := by
      rw [List.drop_zero]
      have := chunk_flatten (rows := byteRows (x :: data)) (sz := 1) (byteRows_row _)
      rwa [hld] at this
    have hfl : 0 + (data.length + 1) * 1 ≤ (byteRows (x :: data)).flatten.length := by rw [flat_len (byteRows_row _), hld]; omega
    have tE := And.intro (@upd_upd AV) <| And.intro (@upd_upd (Option Blk)) <| And.intro Cf.cells.eq_1 <| And.intro Fs.cells.eq_1 <| And.intro hg <| And.intro hdd <| And.intro hld <| And.intro ty3 <| And.intro ty4 <| And.intro ty5 <| And.intro ty23 <| And.intro ty24 <| And.intro ty26 <| And.intro ty34 <| And.intro ty35 <| And.intro ty37 <| Try.results5; repeat' first | ((with_reducible first | apply w_seq | apply w_region | apply wl_nil | apply wr_nil | apply wr_nilA | apply wr_nilE | apply go_normal | apply go_ret | apply go_exit | apply blk_normal | apply blk_ret | apply blk_here | apply w_block | apply w_skip | apply w_exit | apply w_label)) | ((with_reducible first | apply wz (tok Try.prog) | apply wr_z (tok Try.prog)); exact zZ; decide) | ((with_reducible first | apply wzg (tok Try.prog) | apply wr_zg (tok Try.prog)); exact zU; exact zL; exact zU; exact zZ; decide) | ((with_reducible first | apply w_alloc (tok Try.prog)); exact zT; decide) | ((with_reducible first | apply w_store (tok Try.prog)); exact zV; exact zV; exact zS) | ((with_reducible first | apply wcall' | apply wr_call); exact zV; exact zVs; exact zAs; (focus (with_unfolding_all first | exact pf10 f | exact h14)); decide) | ((with_reducible first | apply w_ap | apply wr_ap); (focus (first | (intro _ ho _ hr _; (with_reducible apply ap_new (tok Try.prog) ho (hr := hr)); exact zT; exact zU; exact zT; exact zT; exact zU; exact zA; exact zV; exact zK; exact zM; exact zK; exact zK; decide) | (intro _ ho _ hr _; (with_reducible apply ap_own (tok Try.prog) ho (hr := hr)); exact zT; exact zU; exact zT; exact zT; exact zU; exact zV; exact zV; exact zH; exact zKo; exact zM; (focus (first | rfl | assumption)); exact zKo; exact zKo; decide))); decide) | ((with_reducible first | apply wp | apply wr_p); (focus (first | ((with_reducible first | apply p_slv (tok Try.prog)); exact zT; exact zU; exact zT; exact zV; exact zN; exact zN; (focus (first | exact zU | exact zB)); (focus (first | exact zU | exact zB)); (focus (first | exact zU | assumption))) | ((with_reducible first | apply p_slo (tok Try.prog)); exact zT; exact zU; exact zT; exact zV; exact zN; exact zN; (focus (first | exact zU | exact zB)); (focus (first | exact zU | exact zB)); (focus (first | exact zU | assumption))) | ((with_reducible first | apply p_nil (tok Try.prog) | apply p_nnil (tok Try.prog)); exact zT; exact zV; exact zU) | ((with_reducible first | apply p_bs0 (tok Try.prog)); exact zT; exact zU; exact zT) | ((with_reducible first | apply p_ap0 (tok Try.prog)); exact zT; exact zU; exact zT; exact zT; exact zU; exact zA; exact zV; (focus (first | exact Or.inl rfl | exact Or.inr rfl))) | ((with_reducible first | apply p_bytes (tok Try.prog)); exact zT; exact zU; exact zT; exact zU; exact zT; exact zU; exact zV))); decide) | ((with_reducible first | apply w_iff'); exact zV; exact zU) | fail
    all_goals try clear tE
    refine wl_ghost (g_freeze (d := 14) (id := 0) (off := 0) (len := data.length + 1) (cap := none) (sz := 1) (cs := (byteRows (x :: data)).flatten) (e := 5) rfl rfl hfl) ?_
    rw [hch]
    (have tE := And.intro (@upd_upd AV) <| And.intro (@upd_upd (Option Blk)) <| And.intro Cf.cells.eq_1 <| And.intro Fs.cells.eq_1 <| And.intro hg <| And.intro hdd <| hld; (with_reducible apply wacall); exact zV; exact zVs; exact zAs; exact n1.cal; (focus (with_unfolding_all exact n1.ac _ _)); decide; clear tE)
    rintro r H1 k1 ⟨hn1, hold1, htop1, x, y, rfl, hown1, rfl⟩
    obtain ⟨a1, rfl, o1_1⟩ := own_turn hown1
    clear hown1
    have hn1 : 2 ≤ k1 := hn1
    have o1_1 : Own H1 (fun id => 2 ≤ id ∧ id < k1) a1 (.view (frRows F1.l)) := o1_1.mv fun id b hid hb => ⟨⟨hid, lt_top htop1 hb⟩, hb⟩
    have bx_1 : H1 1 = some (.cells f.cells 26) := hold1 1 _ rfl
    have z1 := (own_scal o1_1).1
    simp only [scalA] at z1
    have px_1 : ((1 : Nat) == k1) = false := by rw [beq_eq_false_iff_ne]; omega
    have qx_1 : ((1 : Nat) == k1 + 1) = false := by rw [beq_eq_false_iff_ne]; omega
    have tE := And.intro (@upd_upd AV) <| And.intro (@upd_upd (Option Blk)) <| And.intro Cf.cells.eq_1 <| And.intro Fs.cells.eq_1 <| And.intro hg <| And.intro hdd <| And.intro hld <| And.intro z1 <| And.intro bx_1 <| And.intro px_1 <| And.intro qx_1 <| And.intro ty3 <| And.intro ty4 <| And.intro ty5 <| And.intro ty23 <| And.intro ty24 <| And.intro ty26 <| And.intro ty34 <| And.intro ty35 <| And.intro ty37 <| Try.results5; repeat' first | ((with_reducible first | apply w_seq | apply w_region | apply wl_nil | apply wr_nil | apply wr_nilA | apply wr_nilE | apply go_normal | apply go_ret | apply go_exit | apply blk_normal | apply blk_ret | apply blk_here | apply w_block | apply w_skip | apply w_exit | apply w_label)) | ((with_reducible first | apply wz (tok Try.prog) | apply wr_z (tok Try.prog)); exact zZ; decide) | ((with_reducible first | apply w_alloc (tok Try.prog)); exact zT; decide) | ((with_reducible first | apply w_store (tok Try.prog)); exact zV; exact zV; exact zS) | ((with_reducible first | apply wcall' | apply wr_call); exact zV; exact zVs; exact zAs; (focus (with_unfolding_all first | exact f1)); decide) | fail
    all_goals try clear tE
    (have tE := And.intro (@upd_upd AV) <| And.intro (@upd_upd (Option Blk)) <| And.intro Cf.cells.eq_1 <| And.intro Fs.cells.eq_1 <| And.intro hg <| And.intro hdd <| hld; (with_reducible apply wacall); exact zV; exact zVs; exact zAs; exact n2.cal; (focus (with_unfolding_all exact n2.ac _ _)); decide; clear tE)
    rintro r H2 k2 ⟨hn2, hold2, htop2, x, y, rfl, hown2, rfl⟩
    obtain ⟨a2, rfl, o2_2⟩ := own_turn hown2
    clear hown2
    have hn2 : k1 + 2 ≤ k2 := hn2
    have o2_2 : Own H2 (fun id => k1 + 2 ≤ id ∧ id < k2) a2 (.view (frRows F2.l)) := o2_2.mv fun id b hid hb => ⟨⟨hid, lt_top htop2 hb⟩, hb⟩
    have bx_2 : H2 1 = some (.cells f.cells 26) := hold2 1 _ (by rw [upd_ne _ _ (by omega), upd_ne _ _ (by omega)]; exact bx_1)
    have e1_2 : H2 k1 = some (.cells [a1, .int .i64 F1.h] 26) := hold2 k1 _ (by rw [upd_ne _ _ (by omega), upd_same])
    have r1_2 : H2 (k1 + 1) = some (.cells F1.cells 26) := hold2 (k1 + 1) _ (by rw [upd_same]; rfl)
    have o1_2 : Own H2 (fun id => 2 ≤ id ∧ id < k1) a1 (.view (frRows F1.l)) := o1_1.mv fun id b hid hb => ⟨hid, hold2 id b (by rw [upd_ne _ _ (by omega), upd_ne _ _ (by omega)]; exact hb)⟩
    clear bx_1 o1_1 hold2
    have z2 := (own_scal o2_2).1
    simp only [scalA] at z2
    have px_2 : ((1 : Nat) == k2) = false := by rw [beq_eq_false_iff_ne]; omega
    have qx_2 : ((1 : Nat) == k2 + 1) = false := by rw [beq_eq_false_iff_ne]; omega
    have tE := And.intro (@upd_upd AV) <| And.intro (@upd_upd (Option Blk)) <| And.intro Cf.cells.eq_1 <| And.intro Fs.cells.eq_1 <| And.intro hg <| And.intro hdd <| And.intro hld <| And.intro z2 <| And.intro bx_2 <| And.intro px_2 <| And.intro qx_2 <| And.intro ty3 <| And.intro ty4 <| And.intro ty5 <| And.intro ty23 <| And.intro ty24 <| And.intro ty26 <| And.intro ty34 <| And.intro ty35 <| And.intro ty37 <| Try.results5; repeat' first | ((with_reducible first | apply w_seq | apply w_region | apply wl_nil | apply wr_nil | apply wr_nilA | apply wr_nilE | apply go_normal | apply go_ret | apply go_exit | apply blk_normal | apply blk_ret | apply blk_here | apply w_block | apply w_skip | apply w_exit | apply w_label)) | ((with_reducible first | apply wz (tok Try.prog) | apply wr_z (tok Try.prog)); exact zZ; decide) | ((with_reducible first | apply w_alloc (tok Try.prog)); exact zT; decide) | ((with_reducible first | apply w_store (tok Try.prog)); exact zV; exact zV; exact zS) | ((with_reducible first | apply wcall' | apply wr_call); exact zV; exact zVs; exact zAs; (focus (with_unfolding_all first | exact f2)); decide) | fail
    all_goals try clear tE
    (have tE := And.intro (@upd_upd AV) <| And.intro (@upd_upd (Option Blk)) <| And.intro Cf.cells.eq_1 <| And.intro Fs.cells.eq_1 <| And.intro hg <| And.intro hdd <| hld; (with_reducible apply wacall); exact zV; exact zVs; exact zAs; exact n3.cal; (focus (with_unfolding_all exact n3.ac _ _)); decide; clear tE)
    rintro r H3 k3 ⟨hn3, hold3, htop3, x, y, rfl, hown3, rfl⟩
    obtain ⟨a3, rfl, o3_3⟩ := own_turn hown3
    clear hown3
    have hn3 : k2 + 2 ≤ k3 := hn3
    have o3_3 : Own H3 (fun id => k2 + 2 ≤ id ∧ id < k3) a3 (.view (frRows F3.l)) := o3_3.mv fun id b hid hb => ⟨⟨hid, lt_top htop3 hb⟩, hb⟩
    have bx_3 : H3 1 = some (.cells f.cells 26) := hold3 1 _ (by rw [upd_ne _ _ (by omega), upd_ne _ _ (by omega)]; exact bx_2)
    have e1_3 : H3 k1 = some (.cells [a1, .int .i64 F1.h] 26) := hold3 k1 _ (by rw [upd_ne _ _ (by omega), upd_ne _ _ (by omega)]; exact e1_2)
    have r1_3 : H3 (k1 + 1) = some (.cells F1.cells 26) := hold3 (k1 + 1) _ (by rw [upd_ne _ _ (by omega), upd_ne _ _ (by omega)]; exact r1_2)
    have e2_3 : H3 k2 = some (.cells [a2, .int .i64 F2.h] 26) := hold3 k2 _ (by rw [upd_ne _ _ (by omega), upd_same])
    have r2_3 : H3 (k2 + 1) = some (.cells F2.cells 26) := hold3 (k2 + 1) _ (by rw [upd_same]; rfl)
    have o1_3 : Own H3 (fun id => 2 ≤ id ∧ id < k1) a1 (.view (frRows F1.l)) := o1_2.mv fun id b hid hb => ⟨hid, hold3 id b (by rw [upd_ne _ _ (by omega), upd_ne _ _ (by omega)]; exact hb)⟩
    have o2_3 : Own H3 (fun id => k1 + 2 ≤ id ∧ id < k2) a2 (.view (frRows F2.l)) := o2_2.mv fun id b hid hb => ⟨hid, hold3 id b (by rw [upd_ne _ _ (by omega), upd_ne _ _ (by omega)]; exact hb)⟩
    clear bx_2 e1_2 r1_2 o1_2 o2_2 hold3
    have z3 := (own_scal o3_3).1
    simp only [scalA] at z3
    have px_3 : ((1 : Nat) == k3) = false := by rw [beq_eq_false_iff_ne]; omega
    have qx_3 : ((1 : Nat) == k3 + 1) = false := by rw [beq_eq_false_iff_ne]; omega
    have tE := And.intro (@upd_upd AV) <| And.intro (@upd_upd (Option Blk)) <| And.intro Cf.cells.eq_1 <| And.intro Fs.cells.eq_1 <| And.intro hg <| And.intro hdd <| And.intro hld <| And.intro z3 <| And.intro bx_3 <| And.intro px_3 <| And.intro qx_3 <| And.intro ty3 <| And.intro ty4 <| And.intro ty5 <| And.intro ty23 <| And.intro ty24 <| And.intro ty26 <| And.intro ty34 <| And.intro ty35 <| And.intro ty37 <| Try.results5; repeat' first | ((with_reducible first | apply w_seq | apply w_region | apply wl_nil | apply wr_nil | apply wr_nilA | apply wr_nilE | apply go_normal | apply go_ret | apply go_exit | apply blk_normal | apply blk_ret | apply blk_here | apply w_block | apply w_skip | apply w_exit | apply w_label)) | ((with_reducible first | apply wz (tok Try.prog) | apply wr_z (tok Try.prog)); exact zZ; decide) | ((with_reducible first | apply w_alloc (tok Try.prog)); exact zT; decide) | ((with_reducible first | apply w_store (tok Try.prog)); exact zV; exact zV; exact zS) | ((with_reducible first | apply wcall' | apply wr_call); exact zV; exact zVs; exact zAs; (focus (with_unfolding_all first | exact f3)); decide) | fail
    all_goals try clear tE
    (have tE := And.intro (@upd_upd AV) <| And.intro (@upd_upd (Option Blk)) <| And.intro Cf.cells.eq_1 <| And.intro Fs.cells.eq_1 <| And.intro hg <| And.intro hdd <| hld; (with_reducible apply wacall); exact zV; exact zVs; exact zAs; exact n4.cal; (focus (with_unfolding_all exact n4.ac _ _)); decide; clear tE)
    rintro r H4 k4 ⟨hn4, hold4, htop4, x, y, rfl, hown4, rfl⟩
    obtain ⟨a4, rfl, o4_4⟩ := own_turn hown4
    clear hown4
    have hn4 : k3 + 2 ≤ k4 := hn4
    have o4_4 : Own H4 (fun id => k3 + 2 ≤ id ∧ id < k4) a4 (.view (frRows F4.l)) := o4_4.mv fun id b hid hb => ⟨⟨hid, lt_top htop4 hb⟩, hb⟩
    have bx_4 : H4 1 = some (.cells f.cells 26) := hold4 1 _ (by rw [upd_ne _ _ (by omega), upd_ne _ _ (by omega)]; exact bx_3)
    have e1_4 : H4 k1 = some (.cells [a1, .int .i64 F1.h] 26) := hold4 k1 _ (by rw [upd_ne _ _ (by omega), upd_ne _ _ (by omega)]; exact e1_3)
    have r1_4 : H4 (k1 + 1) = some (.cells F1.cells 26) := hold4 (k1 + 1) _ (by rw [upd_ne _ _ (by omega), upd_ne _ _ (by omega)]; exact r1_3)
    have e2_4 : H4 k2 = some (.cells [a2, .int .i64 F2.h] 26) := hold4 k2 _ (by rw [upd_ne _ _ (by omega), upd_ne _ _ (by omega)]; exact e2_3)
    have r2_4 : H4 (k2 + 1) = some (.cells F2.cells 26) := hold4 (k2 + 1) _ (by rw [upd_ne _ _ (by omega), upd_ne _ _ (by omega)]; exact r2_3)
    have e3_4 : H4 k3 = some (.cells [a3, .int .i64 F3.h] 26) := hold4 k3 _ (by rw [upd_ne _ _ (by omega), upd_same])
    have r3_4 : H4 (k3 + 1) = some (.cells F3.cells 26) := hold4 (k3 + 1) _ (by rw [upd_same]; rfl)
    have o1_4 : Own H4 (fun id => 2 ≤ id ∧ id < k1) a1 (.view (frRows F1.l)) := o1_3.mv fun id b hid hb => ⟨hid, hold4 id b (by rw [upd_ne _ _ (by omega), upd_ne _ _ (by omega)]; exact hb)⟩
    have o2_4 : Own H4 (fun id => k1 + 2 ≤ id ∧ id < k2) a2 (.view (frRows F2.l)) := o2_3.mv fun id b hid hb => ⟨hid, hold4 id b (by rw [upd_ne _ _ (by omega), upd_ne _ _ (by omega)]; exact hb)⟩
    have o3_4 : Own H4 (fun id => k2 + 2 ≤ id ∧ id < k3) a3 (.view (frRows F3.l)) := o3_3.mv fun id b hid hb => ⟨hid, hold4 id b (by rw [upd_ne _ _ (by omega), upd_ne _ _ (by omega)]; exact hb)⟩
    clear bx_3 e1_3 r1_3 e2_3 r2_3 o1_3 o2_3 o3_3 hold4
    have z4 := (own_scal o4_4).1
    simp only [scalA] at z4
    have px_4 : ((1 : Nat) == k4) = false := by rw [beq_eq_false_iff_ne]; omega
    have qx_4 : ((1 : Nat) == k4 + 1) = false := by rw [beq_eq_false_iff_ne]; omega
    obtain ⟨Hc, hHc⟩ : ∃ X, X = upd (upd H4 k4 (some (.cells [a4, .int .i64 F4.h] 26))) (k4 + 1) (some (.cells F4.cells 26)) := ⟨_, rfl⟩
    have hHc' : upd (upd H4 k4 (some (.cells [a4, .int .i64 F4.h] 26))) (k4 + 1) (some (.cells [.view (frRows F4.l), .int .i64 F4.h] 26)) = Hc := hHc.symm
    have keep : ∀ id b, id < k4 → H4 id = some b → Hc id = some b := fun id b hid hb => by rw [hHc, upd_ne _ _ (by omega), upd_ne _ _ (by omega)]; exact hb
    have bx := keep 1 _ (by omega) bx_4
    have e1 := keep k1 _ (by omega) e1_4
    have r1 := keep (k1 + 1) _ (by omega) r1_4
    have e2 := keep k2 _ (by omega) e2_4
    have r2 := keep (k2 + 1) _ (by omega) r2_4
    have e3 := keep k3 _ (by omega) e3_4
    have r3 := keep (k3 + 1) _ (by omega) r3_4
    have e4 : Hc k4 = some (.cells [a4, .int .i64 F4.h] 26) := by rw [hHc, upd_ne _ _ (by omega), upd_same]
    have r4 : Hc (k4 + 1) = some (.cells F4.cells 26) := by rw [hHc, upd_same]
    have o1 : Own Hc (fun id => 2 ≤ id ∧ id < k1) a1 (.view (frRows F1.l)) := o1_4.mv fun id b hid hb => ⟨hid, keep id b (by omega) hb⟩
    have w1 : AC Try.prog 15 [.agg [a1, .int .i64 F1.h], .agg F1.cells] Hc (k4 + 2) (fun r h' n' => r = .ret (.bool true) ∧ h' = Hc ∧ n' = k4 + 2) := look15 hs1 o1
    have o2 : Own Hc (fun id => k1 + 2 ≤ id ∧ id < k2) a2 (.view (frRows F2.l)) := o2_4.mv fun id b hid hb => ⟨hid, keep id b (by omega) hb⟩
    have w2 : AC Try.prog 15 [.agg [a2, .int .i64 F2.h], .agg F2.cells] Hc (k4 + 2) (fun r h' n' => r = .ret (.bool true) ∧ h' = Hc ∧ n' = k4 + 2) := look15 hs2 o2
    have o3 : Own Hc (fun id => k2 + 2 ≤ id ∧ id < k3) a3 (.view (frRows F3.l)) := o3_4.mv fun id b hid hb => ⟨hid, keep id b (by omega) hb⟩
    have w3 : AC Try.prog 15 [.agg [a3, .int .i64 F3.h], .agg F3.cells] Hc (k4 + 2) (fun r h' n' => r = .ret (.bool true) ∧ h' = Hc ∧ n' = k4 + 2) := look15 hs3 o3
    have o4 : Own Hc (fun id => k3 + 2 ≤ id ∧ id < k4) a4 (.view (frRows F4.l)) := o4_4.mv fun id b hid hb => ⟨hid, keep id b (by omega) hb⟩
    have w4 : AC Try.prog 15 [.agg [a4, .int .i64 F4.h], .agg F4.cells] Hc (k4 + 2) (fun r h' n' => r = .ret (.bool true) ∧ h' = Hc ∧ n' = k4 + 2) := look15 hs4 o4
    clear keep bx_4 e1_4 r1_4 e2_4 r2_4 e3_4 r3_4 o1_4 o2_4 o3_4 o4_4
    have tE := And.intro (@upd_upd AV) <| And.intro (@upd_upd (Option Blk)) <| And.intro Cf.cells.eq_1 <| And.intro Fs.cells.eq_1 <| And.intro hg <| And.intro hdd <| And.intro hld <| And.intro z4 <| And.intro hHc' <| And.intro bx <| And.intro e1 <| And.intro r1 <| And.intro e2 <| And.intro r2 <| And.intro e3 <| And.intro r3 <| And.intro e4 <| And.intro r4 <| And.intro px_4 <| And.intro qx_4 <| And.intro ty3 <| And.intro ty4 <| And.intro ty5 <| And.intro ty23 <| And.intro ty24 <| And.intro ty26 <| And.intro ty34 <| And.intro ty35 <| And.intro ty37 <| Try.results5; repeat' first | ((with_reducible first | apply w_seq | apply w_region | apply wl_nil | apply wr_nil | apply wr_nilA | apply wr_nilE | apply go_normal | apply go_ret | apply go_exit | apply blk_normal | apply blk_ret | apply blk_here | apply w_block | apply w_skip | apply w_exit | apply w_label)) | ((with_reducible first | apply wz (tok Try.prog) | apply wr_z (tok Try.prog)); exact zZ; decide) | ((with_reducible first | apply wzg (tok Try.prog) | apply wr_zg (tok Try.prog)); exact zU; exact zL; exact zU; exact zZ; decide) | ((with_reducible first | apply w_alloc (tok Try.prog)); exact zT; decide) | ((with_reducible first | apply w_store (tok Try.prog)); exact zV; exact zV; exact zS) | ((with_reducible first | apply wcall' | apply wr_call); exact zV; exact zVs; exact zAs; (focus (with_unfolding_all first | exact f4)); decide) | ((with_reducible first | apply wacall'); exact zV; exact zVs; exact zAs; (focus (first | exact ⟨_, Try.func15, rfl, rfl⟩)); (focus (with_unfolding_all first | exact w1 | exact w2 | exact w3 | exact w4)); decide) | ((with_reducible first | apply wacallg'); exact zU; exact zL; exact zU; exact zV; exact zVs; exact zAs; (focus (first | exact ⟨_, Try.func15, rfl, rfl⟩)); (focus (with_unfolding_all first | exact w1 | exact w2 | exact w3 | exact w4)); decide) | fail
    all_goals try clear tE
    have s1 := ac29 F1.l F1.h a1 (fun id => 2 ≤ id ∧ id < k1) Hc (k4 + 2) o1 (fun id h => by omega) hs1.1 hs1.2
    (have tE := And.intro (@upd_upd AV) <| And.intro (@upd_upd (Option Blk)) <| And.intro Cf.cells.eq_1 <| And.intro Fs.cells.eq_1 <| And.intro hg <| And.intro hdd <| hld; (with_reducible apply wacall); exact zV; exact zVs; exact zAs; exact cal29; (focus (with_unfolding_all exact s1)); decide; clear tE)
    rintro r G1 g1 ⟨rfl, sp1, rfl⟩
    have kp1 : ∀ id, id < k4 + 2 → ¬ (2 ≤ id ∧ id < k1) → G1 id = Hc id := fun id hid hs => by rw [sp1.out id hs, upd_ne _ _ (by omega)]
    have bx : G1 1 = some (.cells f.cells 26) := by rw [kp1 1 (by omega) (by omega)]; exact bx
    have e2 : G1 k2 = some (.cells [a2, .int .i64 F2.h] 26) := by rw [kp1 k2 (by omega) (by omega)]; exact e2
    have o2 : Own G1 (fun id => k1 + 2 ≤ id ∧ id < k2) a2 (.view (frRows F2.l)) := o2.mv fun id b hid hb => ⟨hid, by rw [kp1 id (by omega) (by omega)]; exact hb⟩
    have e3 : G1 k3 = some (.cells [a3, .int .i64 F3.h] 26) := by rw [kp1 k3 (by omega) (by omega)]; exact e3
    have o3 : Own G1 (fun id => k2 + 2 ≤ id ∧ id < k3) a3 (.view (frRows F3.l)) := o3.mv fun id b hid hb => ⟨hid, by rw [kp1 id (by omega) (by omega)]; exact hb⟩
    have e4 : G1 k4 = some (.cells [a4, .int .i64 F4.h] 26) := by rw [kp1 k4 (by omega) (by omega)]; exact e4
    have o4 : Own G1 (fun id => k3 + 2 ≤ id ∧ id < k4) a4 (.view (frRows F4.l)) := o4.mv fun id b hid hb => ⟨hid, by rw [kp1 id (by omega) (by omega)]; exact hb⟩
    clear kp1 sp1 s1
    have tE := And.intro (@upd_upd AV) <| And.intro (@upd_upd (Option Blk)) <| And.intro Cf.cells.eq_1 <| And.intro Fs.cells.eq_1 <| And.intro hg <| And.intro hdd <| And.intro hld <| And.intro e2 <| And.intro ty3 <| And.intro ty4 <| And.intro ty5 <| And.intro ty23 <| And.intro ty24 <| And.intro ty26 <| And.intro ty34 <| And.intro ty35 <| And.intro ty37 <| Try.results5; repeat' first | ((with_reducible first | apply w_seq | apply w_region | apply wl_nil | apply wr_nil | apply wr_nilA | apply wr_nilE | apply go_normal | apply go_ret | apply go_exit | apply blk_normal | apply blk_ret | apply blk_here | apply w_block | apply w_skip | apply w_exit | apply w_label)) | ((with_reducible first | apply wz (tok Try.prog) | apply wr_z (tok Try.prog)); exact zZ; decide) | fail
    all_goals try clear tE
    have s2 := ac29 F2.l F2.h a2 (fun id => k1 + 2 ≤ id ∧ id < k2) G1 (k4 + 3) o2 (fun id h => by omega) hs2.1 hs2.2
    (have tE := And.intro (@upd_upd AV) <| And.intro (@upd_upd (Option Blk)) <| And.intro Cf.cells.eq_1 <| And.intro Fs.cells.eq_1 <| And.intro hg <| And.intro hdd <| hld; (with_reducible apply wacall); exact zV; exact zVs; exact zAs; exact cal29; (focus (with_unfolding_all exact s2)); decide; clear tE)
    rintro r G2 g2 ⟨rfl, sp2, rfl⟩
    have kp2 : ∀ id, id < k4 + 3 → ¬ (k1 + 2 ≤ id ∧ id < k2) → G2 id = G1 id := fun id hid hs => by rw [sp2.out id hs, upd_ne _ _ (by omega)]
    have bx : G2 1 = some (.cells f.cells 26) := by rw [kp2 1 (by omega) (by omega)]; exact bx
    have e3 : G2 k3 = some (.cells [a3, .int .i64 F3.h] 26) := by rw [kp2 k3 (by omega) (by omega)]; exact e3
    have o3 : Own G2 (fun id => k2 + 2 ≤ id ∧ id < k3) a3 (.view (frRows F3.l)) := o3.mv fun id b hid hb => ⟨hid, by rw [kp2 id (by omega) (by omega)]; exact hb⟩
    have e4 : G2 k4 = some (.cells [a4, .int .i64 F4.h] 26) := by rw [kp2 k4 (by omega) (by omega)]; exact e4
    have o4 : Own G2 (fun id => k3 + 2 ≤ id ∧ id < k4) a4 (.view (frRows F4.l)) := o4.mv fun id b hid hb => ⟨hid, by rw [kp2 id (by omega) (by omega)]; exact hb⟩
    clear kp2 sp2 s2
    have tE := And.intro (@upd_upd AV) <| And.intro (@upd_upd (Option Blk)) <| And.intro Cf.cells.eq_1 <| And.intro Fs.cells.eq_1 <| And.intro hg <| And.intro hdd <| And.intro hld <| And.intro e3 <| And.intro ty3 <| And.intro ty4 <| And.intro ty5 <| And.intro ty23 <| And.intro ty24 <| And.intro ty26 <| And.intro ty34 <| And.intro ty35 <| And.intro ty37 <| Try.results5; repeat' first | ((with_reducible first | apply w_seq | apply w_region | apply wl_nil | apply wr_nil | apply wr_nilA | apply wr_nilE | apply go_normal | apply go_ret | apply go_exit | apply blk_normal | apply blk_ret | apply blk_here | apply w_block | apply w_skip | apply w_exit | apply w_label)) | ((with_reducible first | apply wz (tok Try.prog) | apply wr_z (tok Try.prog)); exact zZ; decide) | fail
    all_goals try clear tE
    have s3 := ac29 F3.l F3.h a3 (fun id => k2 + 2 ≤ id ∧ id < k3) G2 (k4 + 4) o3 (fun id h => by omega) hs3.1 hs3.2
    (have tE := And.intro (@upd_upd AV) <| And.intro (@upd_upd (Option Blk)) <| And.intro Cf.cells.eq_1 <| And.intro Fs.cells.eq_1 <| And.intro hg <| And.intro hdd <| hld; (with_reducible apply wacall); exact zV; exact zVs; exact zAs; exact cal29; (focus (with_unfolding_all exact s3)); decide; clear tE)
    rintro r G3 g3 ⟨rfl, sp3, rfl⟩
    have kp3 : ∀ id, id < k4 + 4 → ¬ (k2 + 2 ≤ id ∧ id < k3) → G3 id = G2 id := fun id hid hs => by rw [sp3.out id hs, upd_ne _ _ (by omega)]
    have bx : G3 1 = some (.cells f.cells 26) := by rw [kp3 1 (by omega) (by omega)]; exact bx
    have e4 : G3 k4 = some (.cells [a4, .int .i64 F4.h] 26) := by rw [kp3 k4 (by omega) (by omega)]; exact e4
    have o4 : Own G3 (fun id => k3 + 2 ≤ id ∧ id < k4) a4 (.view (frRows F4.l)) := o4.mv fun id b hid hb => ⟨hid, by rw [kp3 id (by omega) (by omega)]; exact hb⟩
    clear kp3 sp3 s3
    have tE := And.intro (@upd_upd AV) <| And.intro (@upd_upd (Option Blk)) <| And.intro Cf.cells.eq_1 <| And.intro Fs.cells.eq_1 <| And.intro hg <| And.intro hdd <| And.intro hld <| And.intro e4 <| And.intro ty3 <| And.intro ty4 <| And.intro ty5 <| And.intro ty23 <| And.intro ty24 <| And.intro ty26 <| And.intro ty34 <| And.intro ty35 <| And.intro ty37 <| Try.results5; repeat' first | ((with_reducible first | apply w_seq | apply w_region | apply wl_nil | apply wr_nil | apply wr_nilA | apply wr_nilE | apply go_normal | apply go_ret | apply go_exit | apply blk_normal | apply blk_ret | apply blk_here | apply w_block | apply w_skip | apply w_exit | apply w_label)) | ((with_reducible first | apply wz (tok Try.prog) | apply wr_z (tok Try.prog)); exact zZ; decide) | fail
    all_goals try clear tE
    have s4 := ac29 F4.l F4.h a4 (fun id => k3 + 2 ≤ id ∧ id < k4) G3 (k4 + 5) o4 (fun id h => by omega) hs4.1 hs4.2
    (have tE := And.intro (@upd_upd AV) <| And.intro (@upd_upd (Option Blk)) <| And.intro Cf.cells.eq_1 <| And.intro Fs.cells.eq_1 <| And.intro hg <| And.intro hdd <| hld; (with_reducible apply wacall); exact zV; exact zVs; exact zAs; exact cal29; (focus (with_unfolding_all exact s4)); decide; clear tE)
    rintro r G4 g4 ⟨rfl, sp4, rfl⟩
    have kp4 : ∀ id, id < k4 + 5 → ¬ (k3 + 2 ≤ id ∧ id < k4) → G4 id = G3 id := fun id hid hs => by rw [sp4.out id hs, upd_ne _ _ (by omega)]
    have bx : G4 1 = some (.cells f.cells 26) := by rw [kp4 1 (by omega) (by omega)]; exact bx
    clear kp4 sp4 s4
    have tE := And.intro (@upd_upd AV) <| And.intro (@upd_upd (Option Blk)) <| And.intro Cf.cells.eq_1 <| And.intro Fs.cells.eq_1 <| And.intro bx <| And.intro ty3 <| And.intro ty4 <| And.intro ty5 <| And.intro ty23 <| And.intro ty24 <| And.intro ty26 <| And.intro ty34 <| And.intro ty35 <| And.intro ty37 <| Try.results5; repeat' first | ((with_reducible first | apply w_seq | apply w_region | apply wl_nil | apply wr_nil | apply wr_nilA | apply wr_nilE | apply go_normal | apply go_ret | apply go_exit | apply blk_normal | apply blk_ret | apply blk_here | apply w_block | apply w_skip | apply w_exit | apply w_label)) | ((with_reducible first | apply wz (tok Try.prog) | apply wr_z (tok Try.prog)); exact zZ; decide) | ((with_reducible first | apply wzg (tok Try.prog) | apply wr_zg (tok Try.prog)); exact zU; exact zL; exact zU; exact zZ; decide) | ((with_reducible first | apply wcallg' | apply wr_callg); exact zU; exact zL; exact zU; exact zV; exact zVs; exact zAs; (focus (with_unfolding_all first | exact h30 | exact h15 | exact h20)); decide) | ((with_reducible apply w_ret); (repeat (with_reducible first | apply go_ret | apply blk_ret)); (with_reducible apply done_ret (tok Try.prog)); exact zT; exact zD; exact zX) | fail
    all_goals try clear tE
    rfl
theorem pf5 (c : Cf) (f : Fs) (at_ page cl : Int) (data : List UInt8) : PF Try.prog 5 [.agg c.cells, .agg f.cells, .int .i64 at_, .int .i64 page, .int .i64 cl, .view (byteRows data)] (fun r => r = .bool true) := by
  cases hg : greatF f.l with
  | true => exact pf5_great c f at_ page cl data (.inl hg)
  | false =>
    by_cases hd : data.length ≤ 100
    · exact pf5_main c f at_ page cl data hg hd
    · exact pf5_great c f at_ page cl data (.inr (by omega))
end Go.Proofs.Ytlmighkbeacjnaa

