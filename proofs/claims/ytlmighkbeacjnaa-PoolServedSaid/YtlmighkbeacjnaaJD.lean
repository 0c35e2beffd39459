/- PoolServed: the law computes true. -/
import Derived.Test.YtlmighkbeacjnaaJC
open Go Go.Lg
set_option linter.unusedSimpArgs false
set_option linter.unusedVariables false
set_option maxHeartbeats 4000000
set_option maxRecDepth 20000
namespace Go.Proofs.Ytlmighkbeacjnaa
theorem gg_sub {N : Nat} {σ : St} {d : Nat} {y : AV} (h : Sub (σ.tm d) y) : ∀ K a, SR K N σ a → ∃ K1, K1.w = K.w ∧ SR K1 N ⟨upd σ.tm d y, σ.h, σ.n, σ.df⟩ a ∧ Step K σ.h K1 σ.h :=
  fun K a hs => ⟨K, rfl, ⟨hs.next, hs.rel, ⟨hs.tr.1, fun t => by
    show VR K (upd σ.tm d y t) _
    by_cases e : t = d
    · subst e; rw [upd_same]; exact h K _ (hs.tr.2 t)
    · rw [upd_ne _ _ e]; exact hs.tr.2 t⟩, hs.dr⟩, .refl K _⟩
/-- A block that two slots tell of is only read from now on. -/
theorem g_frz2 {N : Nat} {σ : St} {d1 d2 id : Nat} {x1 x2 y1 y2 : AV} {b : Blk} (hH : σ.h id = some b) (hx1 : σ.tm d1 = x1) (hx2 : σ.tm d2 = x2) (hf1 : Fz (fun j => if j = id then some b else none) x1 y1) (hf2 : Fz (fun j => if j = id then some b else none) x2 y2) :
    ∀ K a, SR K N σ a → ∃ K1, K1.w = K.w ∧ SR K1 N ⟨upd (upd σ.tm d1 y1) d2 y2, upd σ.h id none, σ.n, σ.df⟩ a ∧ Step K σ.h K1 (upd σ.h id none) := by
  intro K a h
  obtain ⟨g1, g2, g3⟩ := roSome_ok (HS := fun j => if j = id then some b else none) (HR := upd σ.h id none) h.rel (fun i c hc => by
    split at hc
    · rename_i e; rw [e, hH]; exact hc
    · cases hc) (fun i c hc => by
    by_cases e : i = id
    · subst e; rw [upd_same] at hc; cases hc
    · rw [upd_ne _ _ e] at hc; exact hc) (fun i hi => by
    by_cases e : i = id
    · subst e; rw [upd_same] at hi; exact absurd rfl hi
    · simp only [if_neg e])
  have hE : Ext K (K.roAll fun j => if j = id then some b else none) := ⟨Nat.le_refl _, fun _ _ => ⟨rfl, rfl, rfl⟩, fun _ h => .inl h, fun _ _ => rfl⟩
  refine ⟨K.roAll fun j => if j = id then some b else none, rfl, ⟨h.next, g2, ⟨h.tr.1, fun t => ?_⟩, h.dr.mono hE⟩, g3⟩
  show VR _ (upd (upd σ.tm d1 y1) d2 y2 t) _
  have ht := h.tr.2 t
  by_cases e2 : t = d2
  · subst e2; rw [upd_same]; rw [hx2] at ht; exact fz_VR g1 hf2 _ ht
  · rw [upd_ne _ _ e2]
    by_cases e1 : t = d1
    · subst e1; rw [upd_same]; rw [hx1] at ht; exact fz_VR g1 hf1 _ ht
    · rw [upd_ne _ _ e1]; exact ht.mono hE
theorem pf16 (f : Fs) (u : Un) : PF Try.prog 16 [.agg f.cells, .view (unRows [u])] (fun r => r = .bool (greatF f.l || great [u])) := by
  have h10 := pf10 f
  have h52 := pf52 [u]
  refine pf_of_w0 Try.func16 (c := _) rfl rfl (Nat.le_of_ble_eq_true rfl) (args_2 (fsa_pur f) (unRows_pur [u])) ?_
  rw [show Try.f16.ntmps = 11 from rfl]
  cases hg : greatF f.l with
  | true =>
    have tE := And.intro (@upd_upd AV) <| And.intro (@upd_upd (Option Blk)) <| And.intro Fs.cells.eq_1 <| And.intro hg <| And.intro ty3 <| And.intro ty4 <| And.intro ty5 <| And.intro ty24 <| And.intro ty26 <| And.intro ty34 <| And.intro ty35 <| And.intro ty37 <| Try.results16; repeat' first | ((with_reducible first | apply w_seq | apply w_region | apply wl_nil | apply wr_nil | apply wr_nilA | apply wr_nilE | apply go_normal | apply go_ret | apply go_exit | apply blk_normal | apply blk_ret | apply blk_here | apply w_block | apply w_skip | apply w_exit | apply w_label)) | ((with_reducible first | apply wz (tok Try.prog) | apply wr_z (tok Try.prog)); exact zZ; decide) | ((with_reducible first | apply wskip' | apply wr_skip); exact zU; exact zL; exact zU; decide) | ((with_reducible first | apply wcall' | apply wr_call); exact zV; exact zVs; exact zAs; (focus (with_unfolding_all first | exact h10 | exact h52)); decide) | ((with_reducible apply w_ret); (repeat (with_reducible first | apply go_ret | apply blk_ret)); (with_reducible apply done_ret (tok Try.prog)); exact zT; exact zD; exact zX) | fail
    all_goals try clear tE
    rfl
  | false =>
    have tE := And.intro (@upd_upd AV) <| And.intro (@upd_upd (Option Blk)) <| And.intro Fs.cells.eq_1 <| And.intro hg <| And.intro ty3 <| And.intro ty4 <| And.intro ty5 <| And.intro ty24 <| And.intro ty26 <| And.intro ty34 <| And.intro ty35 <| And.intro ty37 <| Try.results16; repeat' first | ((with_reducible first | apply w_seq | apply w_region | apply wl_nil | apply wr_nil | apply wr_nilA | apply wr_nilE | apply go_normal | apply go_ret | apply go_exit | apply blk_normal | apply blk_ret | apply blk_here | apply w_block | apply w_skip | apply w_exit | apply w_label)) | ((with_reducible first | apply wz (tok Try.prog) | apply wr_z (tok Try.prog)); exact zZ; decide) | ((with_reducible first | apply wzg (tok Try.prog) | apply wr_zg (tok Try.prog)); exact zU; exact zL; exact zU; exact zZ; decide) | ((with_reducible first | apply wcall' | apply wr_call); exact zV; exact zVs; exact zAs; (focus (with_unfolding_all first | exact h10 | exact h52)); decide) | ((with_reducible first | apply wcallg' | apply wr_callg); exact zU; exact zL; exact zU; exact zV; exact zVs; exact zAs; (focus (with_unfolding_all first | exact h10 | exact h52)); decide) | ((with_reducible apply w_ret); (repeat (with_reducible first | apply go_ret | apply blk_ret)); (with_reducible apply done_ret (tok Try.prog)); exact zT; exact zD; exact zX) | fail
    all_goals try clear tE
    rfl
theorem args_s {c : Cf} {f : Fs} {u : Un} {data : List UInt8} : ∀ x, x ∈ [AV.agg c.cells, .agg f.cells, .agg u.cells, .view (byteRows data)] → Pur x := args_4 (cf_pur c) (fsa_pur f) (.agg (un_pur u)) (byteRows_pur data)
theorem pf4_great (c : Cf) (f : Fs) (u : Un) (data : List UInt8) (hg : (greatF f.l || great [u]) = true ∨ data.length > 100) : PF Try.prog 4 [.agg c.cells, .agg f.cells, .agg u.cells, .view (byteRows data)] (fun r => r = .bool true) := by
  have h16 := pf16 f u
  simp only [unRows, List.map_cons, List.map_nil] at h16
  refine pf_of_w0 Try.func4 (c := _) rfl rfl (Nat.le_of_ble_eq_true rfl) args_s ?_
  rw [show Try.f4.ntmps = 70 from rfl]
  cases hg1 : (greatF f.l || great [u]) with
  | true =>
    rw [hg1] at h16
    have tE := And.intro (@upd_upd AV) <| And.intro (@upd_upd (Option Blk)) <| And.intro Cf.cells.eq_1 <| And.intro Fs.cells.eq_1 <| And.intro Un.cells.eq_1 <| And.intro ty3 <| And.intro ty4 <| And.intro ty5 <| And.intro ty23 <| And.intro ty24 <| And.intro ty26 <| And.intro ty29 <| And.intro ty34 <| And.intro ty35 <| And.intro ty37 <| And.intro ty42 <| And.intro ty44 <| And.intro ty48 <| And.intro ty53 <| Try.results4; repeat' first | ((with_reducible first | apply w_seq | apply w_region | apply wl_nil | apply wr_nil | apply wr_nilA | apply wr_nilE | apply go_normal | apply go_ret | apply go_exit | apply blk_normal | apply blk_ret | apply blk_here | apply w_block | apply w_skip | apply w_exit | apply w_label)) | ((with_reducible first | apply wz (tok Try.prog) | apply wr_z (tok Try.prog)); exact zZ; decide) | ((with_reducible first | apply wskip' | apply wr_skip); exact zU; exact zL; exact zU; decide) | ((with_reducible first | apply wcall' | apply wr_call); exact zV; exact zVs; exact zAs; (focus (with_unfolding_all first | exact h16)); decide) | ((with_reducible first | apply wp | apply wr_p); (focus (first | ((with_reducible first | apply pure_bs1 (tok Try.prog)); exact zT; exact zU; exact zT; exact zP; exact zR; exact zC; decide; decide; exact zU; exact zU))); decide) | ((with_reducible first | apply w_ift'); exact zV; exact zU) | ((with_reducible apply w_ret); (repeat (with_reducible first | apply go_ret | apply blk_ret)); (with_reducible apply done_ret (tok Try.prog)); exact zT; exact zD; exact zX) | fail
    all_goals try clear tE
    rfl
  | false =>
    rw [hg1] at h16
    have hd : ((data.length : Int) > 100) = True := by rw [hg1] at hg; simp at hg; simp; omega
    have tE := And.intro (@upd_upd AV) <| And.intro (@upd_upd (Option Blk)) <| And.intro Cf.cells.eq_1 <| And.intro Fs.cells.eq_1 <| And.intro Un.cells.eq_1 <| And.intro hd <| And.intro byteRows_len <| And.intro ty3 <| And.intro ty4 <| And.intro ty5 <| And.intro ty23 <| And.intro ty24 <| And.intro ty26 <| And.intro ty29 <| And.intro ty34 <| And.intro ty35 <| And.intro ty37 <| And.intro ty42 <| And.intro ty44 <| And.intro ty48 <| And.intro ty53 <| Try.results4; repeat' first | ((with_reducible first | apply w_seq | apply w_region | apply wl_nil | apply wr_nil | apply wr_nilA | apply wr_nilE | apply go_normal | apply go_ret | apply go_exit | apply blk_normal | apply blk_ret | apply blk_here | apply w_block | apply w_skip | apply w_exit | apply w_label)) | ((with_reducible first | apply wz (tok Try.prog) | apply wr_z (tok Try.prog)); exact zZ; decide) | ((with_reducible first | apply wzg (tok Try.prog) | apply wr_zg (tok Try.prog)); exact zU; exact zL; exact zU; exact zZ; decide) | ((with_reducible first | apply wcall' | apply wr_call); exact zV; exact zVs; exact zAs; (focus (with_unfolding_all first | exact h16)); decide) | ((with_reducible first | apply wp | apply wr_p); (focus (first | ((with_reducible first | apply pure_bs1 (tok Try.prog)); exact zT; exact zU; exact zT; exact zP; exact zR; exact zC; decide; decide; exact zU; exact zU))); decide) | ((with_reducible first | apply w_ift'); exact zV; exact zU) | ((with_reducible apply w_ret); (repeat (with_reducible first | apply go_ret | apply blk_ret)); (with_reducible apply done_ret (tok Try.prog)); exact zT; exact zD; exact zX) | fail
    all_goals try clear tE
    rfl
theorem srv_small (c : Cf) (f : Fs) (u : Un) (data : List UInt8) (hl : f.l.length ≤ 1000000) (hd : ∀ x, x ∈ f.l → x.d.length ≤ 1000000 ∧ x.pins.length ≤ 1000000) (hdl : data.length ≤ 1000000) : Small (srvF c f u data) := by
  have hz : Small ⟨[], 0⟩ := ⟨by simp, fun x hx => by simp at hx⟩
  unfold srvF
  split
  · split
    · split
      · exact ⟨hl, hd⟩
      · split
        · exact turn_small hl hd (fun x hx _ => ⟨by simp only [fillV]; exact hdl, (hd x hx).2⟩)
        · exact hz
    · exact hz
  · exact hz
theorem pf4_main (c : Cf) (f : Fs) (u : Un) (data : List UInt8) (hg : (greatF f.l || great [u]) = false) (hdl : data.length ≤ 100) : PF Try.prog 4 [.agg c.cells, .agg f.cells, .agg u.cells, .view (byteRows data)] (fun r => r = .bool true) := by
  have hgf : greatF f.l = false := by simp only [Bool.or_eq_false_iff] at hg; exact hg.1
  obtain ⟨hl0, hd0⟩ := great_small hgf
  have hl : f.l.length ≤ 1000000 := by omega
  have hd : ∀ x, x ∈ f.l → x.d.length ≤ 1000000 ∧ x.pins.length ≤ 1000000 := fun x hx => by have := hd0 x hx; omega
  have h16 := pf16 f u
  rw [hg] at h16
  simp only [unRows, List.map_cons, List.map_nil] at h16
  have h14 := (nf14 f hl hd).pf
  have h15 := pf15 f f hl (fun x hx => (hd x hx).2)
  rw [sameF_self] at h15
  have h20 := pf20 data data
  rw [decide_eq_true rfl] at h20
  have n1 := nf17 c f u data hl hd (by omega)
  have f1 := pf18 c f u data hl hd (by omega)
  have hs1 := srv_small c f u data hl hd (by omega)
  generalize srvF c f u data = F1 at n1 f1 hs1
  generalize srvE c f u data = E1 at n1 f1
  refine pf_of_w0 Try.func4 (c := _) rfl rfl (Nat.le_of_ble_eq_true rfl) args_s ?_
  rw [show Try.f4.ntmps = 70 from rfl]
  cases data with
  | nil =>
    have ed : byteRows [] = [] := rfl
    have hdd : (((0 : Nat) : Int) > 100) = False := by simp
    have tE := And.intro (@upd_upd AV) <| And.intro (@upd_upd (Option Blk)) <| And.intro Cf.cells.eq_1 <| And.intro Fs.cells.eq_1 <| And.intro Un.cells.eq_1 <| And.intro hdd <| And.intro ed <| And.intro ty3 <| And.intro ty4 <| And.intro ty5 <| And.intro ty23 <| And.intro ty24 <| And.intro ty26 <| And.intro ty29 <| And.intro ty34 <| And.intro ty35 <| And.intro ty37 <| And.intro ty42 <| And.intro ty44 <| And.intro ty48 <| And.intro ty53 <| Try.results4; repeat' first | ((with_reducible first | apply w_seq | apply w_region | apply wl_nil | apply wr_nil | apply wr_nilA | apply wr_nilE | apply go_normal | apply go_ret | apply go_exit | apply blk_normal | apply blk_ret | apply blk_here | apply w_block | apply w_skip | apply w_exit | apply w_label)) | ((with_reducible first | apply wz (tok Try.prog) | apply wr_z (tok Try.prog)); exact zZ; decide) | ((with_reducible first | apply wzg (tok Try.prog) | apply wr_zg (tok Try.prog)); exact zU; exact zL; exact zU; exact zZ; decide) | ((with_reducible first | apply w_alloc (tok Try.prog)); exact zT; decide) | ((with_reducible first | apply w_store (tok Try.prog)); exact zV; exact zV; exact zS) | ((with_reducible first | apply wcall' | apply wr_call); exact zV; exact zVs; exact zAs; (focus (with_unfolding_all first | exact h16 | exact h14)); decide) | ((with_reducible first | apply wp | apply wr_p); (focus (first | ((with_reducible first | apply pure_bs1 (tok Try.prog)); exact zT; exact zU; exact zT; exact zP; exact zR; exact zC; decide; decide; exact zU; exact zU))); decide) | ((with_reducible first | apply wp | apply wr_p); (focus (first | ((with_reducible first | apply p_slv (tok Try.prog)); exact zT; exact zU; exact zT; exact zV; exact zN; exact zN; (focus (first | exact zU | exact zB)); (focus (first | exact zU | exact zB)); (focus (first | exact zU | assumption))) | ((with_reducible first | apply p_slo (tok Try.prog)); exact zT; exact zU; exact zT; exact zV; exact zN; exact zN; (focus (first | exact zU | exact zB)); (focus (first | exact zU | exact zB)); (focus (first | exact zU | assumption))) | ((with_reducible first | apply p_nil (tok Try.prog) | apply p_nnil (tok Try.prog)); exact zT; exact zV; exact zU) | ((with_reducible first | apply p_bs0 (tok Try.prog)); exact zT; exact zU; exact zT) | ((with_reducible first | apply p_ap0 (tok Try.prog)); exact zT; exact zU; exact zT; exact zT; exact zU; exact zA; exact zV; (focus (first | exact Or.inl rfl | exact Or.inr rfl))) | ((with_reducible first | apply p_bytes (tok Try.prog)); exact zT; exact zU; exact zT; exact zU; exact zT; exact zU; exact zV))); decide) | ((with_reducible first | apply w_iff'); exact zV; exact zU) | fail
    all_goals try clear tE
    refine wl_ghost (gg_sub (d := 10) (y := .view (byteRows [])) Sub.empty) ?_
    refine wl_ghost (gg_sub (d := 35) (y := .agg (dnC u [])) (Sub.agg (.cons (.refl _) (.cons (.refl _) (.cons (.refl _) (.cons (.refl _) (.cons Sub.empty .nil))))))) ?_
    (have tE := And.intro (@upd_upd AV) <| And.intro (@upd_upd (Option Blk)) <| And.intro Cf.cells.eq_1 <| And.intro Fs.cells.eq_1 <| And.intro Un.cells.eq_1 <| And.intro hdd <| ed; (with_reducible apply wacall); exact zV; exact zVs; exact zAs; exact n1.cal; (focus (with_unfolding_all exact n1.ac _ _)); decide; clear tE)
    rintro r H1 k1 ⟨hn1, hold1, htop1, x', y, rfl, hown1, rfl⟩
    obtain ⟨a1, rfl, o1⟩ := own_turn hown1
    clear hown1
    have hn1 : 1 ≤ k1 := hn1
    have o1 : Own H1 (fun id => 1 ≤ id ∧ id < k1) a1 (.view (frRows F1.l)) := o1.mv fun id b hid hb => ⟨⟨hid, lt_top htop1 hb⟩, hb⟩
    have b1 : H1 0 = some (.cells f.cells 26) := hold1 0 _ rfl
    have z1 := (own_scal o1).1
    simp only [scalA] at z1
    have p1 : ((0 : Nat) == k1) = false := by rw [beq_eq_false_iff_ne]; omega
    have q1 : ((0 : Nat) == k1 + 1) = false := by rw [beq_eq_false_iff_ne]; omega
    obtain ⟨Hc, hHc⟩ : ∃ X, X = upd (upd H1 k1 (some (.cells [a1, .int .i64 F1.h] 26))) (k1 + 1) (some (.cells F1.cells 26)) := ⟨_, rfl⟩
    have hHc' : upd (upd H1 k1 (some (.cells [a1, .int .i64 F1.h] 26))) (k1 + 1) (some (.cells [.view (frRows F1.l), .int .i64 F1.h] 26)) = Hc := hHc.symm
    have keep : ∀ id b, id < k1 → H1 id = some b → Hc id = some b := fun id b hid hb => by rw [hHc, upd_ne _ _ (by omega), upd_ne _ _ (by omega)]; exact hb
    have b1 := keep 0 _ (by omega) b1
    have e1 : Hc k1 = some (.cells [a1, .int .i64 F1.h] 26) := by rw [hHc, upd_ne _ _ (by omega), upd_same]
    have r1 : Hc (k1 + 1) = some (.cells F1.cells 26) := by rw [hHc, upd_same]
    have o1 : Own Hc (fun id => 1 ≤ id ∧ id < k1) a1 (.view (frRows F1.l)) := o1.mv fun id b hid hb => ⟨hid, keep id b (by omega) hb⟩
    have w1 : AC Try.prog 15 [.agg [a1, .int .i64 F1.h], .agg F1.cells] Hc (k1 + 2) (fun r h' n' => r = .ret (.bool true) ∧ h' = Hc ∧ n' = k1 + 2) := look15 hs1 o1
    clear keep hold1
    have tE := And.intro (@upd_upd AV) <| And.intro (@upd_upd (Option Blk)) <| And.intro Cf.cells.eq_1 <| And.intro Fs.cells.eq_1 <| And.intro Un.cells.eq_1 <| And.intro hdd <| And.intro ed <| And.intro z1 <| And.intro hHc' <| And.intro b1 <| And.intro e1 <| And.intro r1 <| And.intro p1 <| And.intro q1 <| And.intro ty3 <| And.intro ty4 <| And.intro ty5 <| And.intro ty23 <| And.intro ty24 <| And.intro ty26 <| And.intro ty29 <| And.intro ty34 <| And.intro ty35 <| And.intro ty37 <| And.intro ty42 <| And.intro ty44 <| And.intro ty48 <| And.intro ty53 <| Try.results4; repeat' first | ((with_reducible first | apply w_seq | apply w_region | apply wl_nil | apply wr_nil | apply wr_nilA | apply wr_nilE | apply go_normal | apply go_ret | apply go_exit | apply blk_normal | apply blk_ret | apply blk_here | apply w_block | apply w_skip | apply w_exit | apply w_label)) | ((with_reducible first | apply wz (tok Try.prog) | apply wr_z (tok Try.prog)); exact zZ; decide) | ((with_reducible first | apply wzg (tok Try.prog) | apply wr_zg (tok Try.prog)); exact zU; exact zL; exact zU; exact zZ; decide) | ((with_reducible first | apply w_alloc (tok Try.prog)); exact zT; decide) | ((with_reducible first | apply w_store (tok Try.prog)); exact zV; exact zV; exact zS) | ((with_reducible first | apply wcall' | apply wr_call); exact zV; exact zVs; exact zAs; (focus (with_unfolding_all first | exact f1)); decide) | ((with_reducible first | apply wacall'); exact zV; exact zVs; exact zAs; (focus (first | exact ⟨_, Try.func15, rfl, rfl⟩)); (focus (with_unfolding_all first | exact w1)); decide) | fail
    all_goals try clear tE
    have s1 := ac19 F1.l F1.h a1 (fun id => 1 ≤ id ∧ id < k1) Hc (k1 + 2) o1 (fun id h => by omega) hs1.1 hs1.2
    (have tE := And.intro (@upd_upd AV) <| And.intro (@upd_upd (Option Blk)) <| And.intro Cf.cells.eq_1 <| And.intro Fs.cells.eq_1 <| And.intro Un.cells.eq_1 <| And.intro hdd <| ed; (with_reducible apply wacall); exact zV; exact zVs; exact zAs; exact cal19; (focus (with_unfolding_all exact s1)); decide; clear tE)
    rintro r G1 g1 ⟨rfl, sp1, rfl⟩
    have b1 : G1 0 = some (.cells f.cells 26) := by rw [sp1.out 0 (by omega), upd_ne _ _ (by omega)]; exact b1
    have tE := And.intro (@upd_upd AV) <| And.intro (@upd_upd (Option Blk)) <| And.intro Cf.cells.eq_1 <| And.intro Fs.cells.eq_1 <| And.intro Un.cells.eq_1 <| And.intro hdd <| And.intro ed <| And.intro b1 <| And.intro ty3 <| And.intro ty4 <| And.intro ty5 <| And.intro ty23 <| And.intro ty24 <| And.intro ty26 <| And.intro ty29 <| And.intro ty34 <| And.intro ty35 <| And.intro ty37 <| And.intro ty42 <| And.intro ty44 <| And.intro ty48 <| And.intro ty53 <| Try.results4; repeat' first | ((with_reducible first | apply w_seq | apply w_region | apply wl_nil | apply wr_nil | apply wr_nilA | apply wr_nilE | apply go_normal | apply go_ret | apply go_exit | apply blk_normal | apply blk_ret | apply blk_here | apply w_block | apply w_skip | apply w_exit | apply w_label)) | ((with_reducible first | apply wz (tok Try.prog) | apply wr_z (tok Try.prog)); exact zZ; decide) | ((with_reducible first | apply wzg (tok Try.prog) | apply wr_zg (tok Try.prog)); exact zU; exact zL; exact zU; exact zZ; decide) | ((with_reducible first | apply wcallg' | apply wr_callg); exact zU; exact zL; exact zU; exact zV; exact zVs; exact zAs; (focus (with_unfolding_all first | exact h15 | exact h20)); decide) | ((with_reducible apply w_ret); (repeat (with_reducible first | apply go_ret | apply blk_ret)); (with_reducible apply done_ret (tok Try.prog)); exact zT; exact zD; exact zX) | fail
    all_goals try clear tE
    rfl
  | cons x data =>
    have hld := byteRows_len (x :: data)
    rw [List.length_cons] at hld
    simp only [List.length_cons] at hdl
    have hdd : (((data.length + 1 : Nat) : Int) > 100) = False := by simp; omega
    have hrd := byteRows_row (x :: data)
    have tE := And.intro (@upd_upd AV) <| And.intro (@upd_upd (Option Blk)) <| And.intro Cf.cells.eq_1 <| And.intro Fs.cells.eq_1 <| And.intro Un.cells.eq_1 <| And.intro hdd <| And.intro hld <| And.intro ty3 <| And.intro ty4 <| And.intro ty5 <| And.intro ty23 <| And.intro ty24 <| And.intro ty26 <| And.intro ty29 <| And.intro ty34 <| And.intro ty35 <| And.intro ty37 <| And.intro ty42 <| And.intro ty44 <| And.intro ty48 <| And.intro ty53 <| Try.results4; repeat' first | ((with_reducible first | apply w_seq | apply w_region | apply wl_nil | apply wr_nil | apply wr_nilA | apply wr_nilE | apply go_normal | apply go_ret | apply go_exit | apply blk_normal | apply blk_ret | apply blk_here | apply w_block | apply w_skip | apply w_exit | apply w_label)) | ((with_reducible first | apply wz (tok Try.prog) | apply wr_z (tok Try.prog)); exact zZ; decide) | ((with_reducible first | apply wzg (tok Try.prog) | apply wr_zg (tok Try.prog)); exact zU; exact zL; exact zU; exact zZ; decide) | ((with_reducible first | apply w_alloc (tok Try.prog)); exact zT; decide) | ((with_reducible first | apply w_store (tok Try.prog)); exact zV; exact zV; exact zS) | ((with_reducible first | apply wcall' | apply wr_call); exact zV; exact zVs; exact zAs; (focus (with_unfolding_all first | exact h16 | exact h14)); decide) | ((with_reducible first | apply w_ap | apply wr_ap); (focus (first | (intro _ ho _ hr _; (with_reducible apply ap_new (tok Try.prog) ho (hr := hr)); exact zT; exact zU; exact zT; exact zT; exact zU; exact zA; exact zV; exact zK; exact zM; exact zK; exact zK; decide) | (intro _ ho _ hr _; (with_reducible apply ap_own (tok Try.prog) ho (hr := hr)); exact zT; exact zU; exact zT; exact zT; exact zU; exact zV; exact zV; exact zH; exact zKo; exact zM; (focus (first | rfl | assumption)); exact zKo; exact zKo; decide))); decide) | ((with_reducible first | apply wp | apply wr_p); (focus (first | ((with_reducible first | apply pure_bs1 (tok Try.prog)); exact zT; exact zU; exact zT; exact zP; exact zR; exact zC; decide; decide; exact zU; exact zU))); decide) | ((with_reducible first | apply wp | apply wr_p); (focus (first | ((with_reducible first | apply p_slv (tok Try.prog)); exact zT; exact zU; exact zT; exact zV; exact zN; exact zN; (focus (first | exact zU | exact zB)); (focus (first | exact zU | exact zB)); (focus (first | exact zU | assumption))) | ((with_reducible first | apply p_slo (tok Try.prog)); exact zT; exact zU; exact zT; exact zV; exact zN; exact zN; (focus (first | exact zU | exact zB)); (focus (first | exact zU | exact zB)); (focus (first | exact zU | assumption))) | ((with_reducible first | apply p_nil (tok Try.prog) | apply p_nnil (tok Try.prog)); exact zT; exact zV; exact zU) | ((with_reducible first | apply p_bs0 (tok Try.prog)); exact zT; exact zU; exact zT) | ((with_reducible first | apply p_ap0 (tok Try.prog)); exact zT; exact zU; exact zT; exact zT; exact zU; exact zA; exact zV; (focus (first | exact Or.inl rfl | exact Or.inr rfl))) | ((with_reducible first | apply p_bytes (tok Try.prog)); exact zT; exact zU; exact zT; exact zU; exact zT; exact zU; exact zV))); decide) | ((with_reducible first | apply w_iff'); exact zV; exact zU) | fail
    all_goals try clear tE
    have hfz : Fz (fun j => if j = 0 then some (Blk.cells (byteRows (x :: data)).flatten 5) else none) (.slice 0 0 (data.length + 1) none 1) (.view (byteRows (x :: data))) := (own_bytes (S := fun _ => True) trivial rfl hld).fz
    refine wl_ghost (g_frz2 (d1 := 10) (d2 := 35) (id := 0) (b := .cells (byteRows (x :: data)).flatten 5) (y1 := .view (byteRows (x :: data))) (y2 := .agg (dnC u (x :: data))) rfl rfl rfl hfz (FzL.agg (.cons (.pur (.int _ _)) (.cons (.pur (.int _ _)) (.cons (.pur (.int _ _)) (.cons (.pur (byteRows_pur _)) (.cons hfz .nil))))))) ?_
    (have tE := And.intro (@upd_upd AV) <| And.intro (@upd_upd (Option Blk)) <| And.intro Cf.cells.eq_1 <| And.intro Fs.cells.eq_1 <| And.intro Un.cells.eq_1 <| And.intro hdd <| hld; (with_reducible apply wacall); exact zV; exact zVs; exact zAs; exact n1.cal; (focus (with_unfolding_all exact n1.ac _ _)); decide; clear tE)
    rintro r H1 k1 ⟨hn1, hold1, htop1, x', y, rfl, hown1, rfl⟩
    obtain ⟨a1, rfl, o1⟩ := own_turn hown1
    clear hown1
    have hn1 : 2 ≤ k1 := hn1
    have o1 : Own H1 (fun id => 2 ≤ id ∧ id < k1) a1 (.view (frRows F1.l)) := o1.mv fun id b hid hb => ⟨⟨hid, lt_top htop1 hb⟩, hb⟩
    have b1 : H1 1 = some (.cells f.cells 26) := hold1 1 _ rfl
    have z1 := (own_scal o1).1
    simp only [scalA] at z1
    have p1 : ((1 : Nat) == k1) = false := by rw [beq_eq_false_iff_ne]; omega
    have q1 : ((1 : Nat) == k1 + 1) = false := by rw [beq_eq_false_iff_ne]; omega
    obtain ⟨Hc, hHc⟩ : ∃ X, X = upd (upd H1 k1 (some (.cells [a1, .int .i64 F1.h] 26))) (k1 + 1) (some (.cells F1.cells 26)) := ⟨_, rfl⟩
    have hHc' : upd (upd H1 k1 (some (.cells [a1, .int .i64 F1.h] 26))) (k1 + 1) (some (.cells [.view (frRows F1.l), .int .i64 F1.h] 26)) = Hc := hHc.symm
    have keep : ∀ id b, id < k1 → H1 id = some b → Hc id = some b := fun id b hid hb => by rw [hHc, upd_ne _ _ (by omega), upd_ne _ _ (by omega)]; exact hb
    have b1 := keep 1 _ (by omega) b1
    have e1 : Hc k1 = some (.cells [a1, .int .i64 F1.h] 26) := by rw [hHc, upd_ne _ _ (by omega), upd_same]
    have r1 : Hc (k1 + 1) = some (.cells F1.cells 26) := by rw [hHc, upd_same]
    have o1 : Own Hc (fun id => 2 ≤ id ∧ id < k1) a1 (.view (frRows F1.l)) := o1.mv fun id b hid hb => ⟨hid, keep id b (by omega) hb⟩
    have w1 : AC Try.prog 15 [.agg [a1, .int .i64 F1.h], .agg F1.cells] Hc (k1 + 2) (fun r h' n' => r = .ret (.bool true) ∧ h' = Hc ∧ n' = k1 + 2) := look15 hs1 o1
    clear keep hold1
    have tE := And.intro (@upd_upd AV) <| And.intro (@upd_upd (Option Blk)) <| And.intro Cf.cells.eq_1 <| And.intro Fs.cells.eq_1 <| And.intro Un.cells.eq_1 <| And.intro hdd <| And.intro hld <| And.intro z1 <| And.intro hHc' <| And.intro b1 <| And.intro e1 <| And.intro r1 <| And.intro p1 <| And.intro q1 <| And.intro ty3 <| And.intro ty4 <| And.intro ty5 <| And.intro ty23 <| And.intro ty24 <| And.intro ty26 <| And.intro ty29 <| And.intro ty34 <| And.intro ty35 <| And.intro ty37 <| And.intro ty42 <| And.intro ty44 <| And.intro ty48 <| And.intro ty53 <| Try.results4; repeat' first | ((with_reducible first | apply w_seq | apply w_region | apply wl_nil | apply wr_nil | apply wr_nilA | apply wr_nilE | apply go_normal | apply go_ret | apply go_exit | apply blk_normal | apply blk_ret | apply blk_here | apply w_block | apply w_skip | apply w_exit | apply w_label)) | ((with_reducible first | apply wz (tok Try.prog) | apply wr_z (tok Try.prog)); exact zZ; decide) | ((with_reducible first | apply wzg (tok Try.prog) | apply wr_zg (tok Try.prog)); exact zU; exact zL; exact zU; exact zZ; decide) | ((with_reducible first | apply w_alloc (tok Try.prog)); exact zT; decide) | ((with_reducible first | apply w_store (tok Try.prog)); exact zV; exact zV; exact zS) | ((with_reducible first | apply wcall' | apply wr_call); exact zV; exact zVs; exact zAs; (focus (with_unfolding_all first | exact f1)); decide) | ((with_reducible first | apply wacall'); exact zV; exact zVs; exact zAs; (focus (first | exact ⟨_, Try.func15, rfl, rfl⟩)); (focus (with_unfolding_all first | exact w1)); decide) | fail
    all_goals try clear tE
    have s1 := ac19 F1.l F1.h a1 (fun id => 2 ≤ id ∧ id < k1) Hc (k1 + 2) o1 (fun id h => by omega) hs1.1 hs1.2
    (have tE := And.intro (@upd_upd AV) <| And.intro (@upd_upd (Option Blk)) <| And.intro Cf.cells.eq_1 <| And.intro Fs.cells.eq_1 <| And.intro Un.cells.eq_1 <| And.intro hdd <| hld; (with_reducible apply wacall); exact zV; exact zVs; exact zAs; exact cal19; (focus (with_unfolding_all exact s1)); decide; clear tE)
    rintro r G1 g1 ⟨rfl, sp1, rfl⟩
    have b1 : G1 1 = some (.cells f.cells 26) := by rw [sp1.out 1 (by omega), upd_ne _ _ (by omega)]; exact b1
    have tE := And.intro (@upd_upd AV) <| And.intro (@upd_upd (Option Blk)) <| And.intro Cf.cells.eq_1 <| And.intro Fs.cells.eq_1 <| And.intro Un.cells.eq_1 <| And.intro hdd <| And.intro hld <| And.intro b1 <| And.intro ty3 <| And.intro ty4 <| And.intro ty5 <| And.intro ty23 <| And.intro ty24 <| And.intro ty26 <| And.intro ty29 <| And.intro ty34 <| And.intro ty35 <| And.intro ty37 <| And.intro ty42 <| And.intro ty44 <| And.intro ty48 <| And.intro ty53 <| Try.results4; repeat' first | ((with_reducible first | apply w_seq | apply w_region | apply wl_nil | apply wr_nil | apply wr_nilA | apply wr_nilE | apply go_normal | apply go_ret | apply go_exit | apply blk_normal | apply blk_ret | apply blk_here | apply w_block | apply w_skip | apply w_exit | apply w_label)) | ((with_reducible first | apply wz (tok Try.prog) | apply wr_z (tok Try.prog)); exact zZ; decide) | ((with_reducible first | apply wzg (tok Try.prog) | apply wr_zg (tok Try.prog)); exact zU; exact zL; exact zU; exact zZ; decide) | ((with_reducible first | apply wcallg' | apply wr_callg); exact zU; exact zL; exact zU; exact zV; exact zVs; exact zAs; (focus (with_unfolding_all first | exact h15 | exact h20)); decide) | ((with_reducible apply w_ret); (repeat (with_reducible first | apply go_ret | apply blk_ret)); (with_reducible apply done_ret (tok Try.prog)); exact zT; exact zD; exact zX) | fail
    all_goals try clear tE
    rfl
theorem pf4 (c : Cf) (f : Fs) (u : Un) (data : List UInt8) : PF Try.prog 4 [.agg c.cells, .agg f.cells, .agg u.cells, .view (byteRows data)] (fun r => r = .bool true) := by
  cases hg : (greatF f.l || great [u]) with
  | true => exact pf4_great c f u data (.inl hg)
  | false =>
    by_cases hd : data.length ≤ 100
    · exact pf4_main c f u data hg hd
    · exact pf4_great c f u data (.inr (by omega))
end Go.Proofs.Ytlmighkbeacjnaa
