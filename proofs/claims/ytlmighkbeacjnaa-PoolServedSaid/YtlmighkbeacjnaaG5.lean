/- The six functions that turn a frame: answers in new memory. -/
import Derived.Test.YtlmighkbeacjnaaG4
open Go Go.Lg
set_option linter.unusedSimpArgs false
set_option linter.unusedVariables false
set_option maxHeartbeats 4000000
set_option maxRecDepth 20000
namespace Go.Proofs.Ytlmighkbeacjnaa
theorem may_pins {c : Cf} {u : Fr} (h : mayF c u = true) : (u.pins.length : Int) = c.cl ∧ wildP u = false := by
  simp only [mayF, Bool.and_eq_true, decide_eq_true_eq, Bool.not_eq_true'] at h
  exact h.1
theorem good_cl {c : Cf} (h : c.good = true) : (1 ≤ c.cl ∧ c.cl ≤ 4) ∧ (1 ≤ c.z ∧ c.z ≤ 32) ∧ (1 ≤ c.p ∧ c.p ≤ 64) := by
  simp [Cf.good, Cf.ok, Cf.spans, inB] at h
  omega
def fillE (c : Cf) (data : List UInt8) (u : Fr) : Int := if u.k = 1 ∧ (data.length : Int) = c.z then 0 else 2
def fillV (data : List UInt8) (u : Fr) : Fr := { u with k := 2, d := data }
def writeE (c : Cf) (data : List UInt8) (u : Fr) : Int := if u.k = 2 ∧ (data.length : Int) = c.z then 0 else 2
def writeV (data : List UInt8) (u : Fr) : Fr := { u with d := data, rf := true, dt := true }
def cleanE (u : Fr) : Int := if u.dt = true then 0 else 2
def cleanV (u : Fr) : Fr := { u with dt := false }
theorem nf23 (c : Cf) (f : Fs) (at_ : Int) (data : List UInt8) (hl : f.l.length ≤ 1000000) (hd : ∀ x, x ∈ f.l → x.d.length ≤ 1000000 ∧ x.pins.length ≤ 1000000) (hdl : data.length ≤ 1000000) : NF Try.prog 23 [.agg c.cells, .agg f.cells, .int .i64 at_, .view (byteRows data)] (fun r => r = .tuple [.agg (turnF c f at_ (fillE c data) (fillV data)).cells, .int .i64 (turnE c f at_ (fillE c data))]) := by
  have hcall := nf62 c f at_ (.view (byteRows data)) 63 [.vptr c.cells] (fillE c data) (fillV data) hl hd (byteRows_pur data) (by
    intro x hx
    simp only [List.mem_cons, List.not_mem_nil, or_false] at hx
    subst hx; exact .vptr (cells_pur c)) ⟨_, Try.func63, rfl, rfl⟩ (fun hok a u hat hu => do63 c data hdl hu)
  generalize turnF c f at_ (fillE c data) (fillV data) = FF at hcall ⊢
  generalize turnE c f at_ (fillE c data) = EE at hcall ⊢
  refine nf_of_w0 Try.func23 (c := _) rfl rfl (Nat.le_of_ble_eq_true rfl) (by
    intro x hx
    simp only [List.mem_cons, List.not_mem_nil, or_false] at hx
    rcases hx with rfl | rfl | rfl | rfl
    · exact cf_pur c
    · exact fsa_pur f
    · exact .int _ _
    · exact byteRows_pur data) ?_
  rw [show Try.f23.ntmps = 18 from rfl]
  have hfp : ∀ x, x ∈ f.cells → Pur x := fs_pur f
  have tE := And.intro (@upd_upd AV) <| And.intro (@upd_upd (Option Blk)) <| And.intro Cf.cells.eq_1 <| And.intro Fs.cells.eq_1 <| And.intro ty3 <| And.intro ty4 <| And.intro ty5 <| And.intro ty23 <| And.intro ty24 <| And.intro ty26 <| And.intro ty34 <| And.intro ty35 <| And.intro ty37 <| Try.results23; repeat' first | ((with_reducible first | apply w_seq | apply w_region | apply wl_nil | apply wr_nil | apply wr_nilA | apply wr_nilE | apply go_normal | apply go_ret | apply go_exit | apply blk_normal | apply blk_ret | apply blk_here | apply w_block | apply w_skip | apply w_exit | apply w_label)) | ((with_reducible first | apply wz (tok Try.prog) | apply wr_z (tok Try.prog)); exact zZ; decide) | ((with_reducible first | apply w_alloc (tok Try.prog)); exact zT; decide) | fail
  all_goals try clear tE
  (have tE := And.intro (@upd_upd AV) <| And.intro (@upd_upd (Option Blk)) <| And.intro Cf.cells.eq_1 <| Fs.cells.eq_1; (with_reducible apply wacall); exact zV; exact zVs; exact zAs; exact ⟨_, Try.func62, rfl, rfl⟩; (focus (with_unfolding_all exact hcall.ac _ _)); decide; clear tE)
  rintro r H' n' ⟨hn', hold, htop, x, y, rfl, hown, rfl⟩
  obtain ⟨xs, rfl, hxs⟩ := hown.tuple_inv
  obtain ⟨x1, r1, rfl, ho1, hr1⟩ := hxs.cons_inv
  obtain ⟨x2, r2, rfl, ho2, hr2⟩ := hr1.cons_inv
  obtain rfl := hr2.nil_inv
  obtain rfl := ho2.int_inv
  obtain ⟨ys, rfl, hys⟩ := ho1.agg_inv
  obtain ⟨y1, s1, rfl, hy1, hs1⟩ := hys.cons_inv
  obtain ⟨y2, s2, rfl, hy2, hs2⟩ := hs1.cons_inv
  obtain rfl := hs2.nil_inv
  obtain rfl := hy2.int_inv
  have e0 := hold 0 _ rfl
  rcases own_shape hy1 with rfl | ⟨_, _, _, _, _, rfl⟩
  all_goals
    have tE := And.intro (@upd_upd AV) <| And.intro (@upd_upd (Option Blk)) <| And.intro e0 <| And.intro ty3 <| And.intro ty4 <| And.intro ty5 <| And.intro ty23 <| And.intro ty24 <| And.intro ty26 <| And.intro ty34 <| And.intro ty35 <| And.intro ty37 <| Try.results23; repeat' first | ((with_reducible first | apply w_seq | apply w_region | apply wl_nil | apply wr_nil | apply wr_nilA | apply wr_nilE | apply go_normal | apply go_ret | apply go_exit | apply blk_normal | apply blk_ret | apply blk_here | apply w_block | apply w_skip | apply w_exit | apply w_label)) | ((with_reducible first | apply wz (tok Try.prog) | apply wr_z (tok Try.prog)); exact zZ; decide) | ((with_reducible first | apply w_store (tok Try.prog)); exact zV; exact zV; exact zS) | ((with_reducible apply w_ret); (repeat (with_reducible first | apply go_ret | apply blk_ret)); (with_reducible first | apply donef_ret (tok Try.prog) | apply doneA_ret (tok Try.prog)); exact zT; exact zD) | fail
    all_goals try clear tE
    refine ⟨_, _, rfl, OwnL.tuple (.cons (OwnL.agg (.cons (hy1.mv (fun id c hid hc => ⟨trivial, ?_⟩)) (.cons (.int _ _) .nil))) (.cons (.int _ _) .nil)), rfl⟩
    have hid : 1 ≤ id := hid
    rw [upd_ne _ _ (by omega)]; exact hc
theorem nf25 (c : Cf) (f : Fs) (at_ : Int) (data : List UInt8) (hl : f.l.length ≤ 1000000) (hd : ∀ x, x ∈ f.l → x.d.length ≤ 1000000 ∧ x.pins.length ≤ 1000000) (hdl : data.length ≤ 1000000) : NF Try.prog 25 [.agg c.cells, .agg f.cells, .int .i64 at_, .view (byteRows data)] (fun r => r = .tuple [.agg (turnF c f at_ (writeE c data) (writeV data)).cells, .int .i64 (turnE c f at_ (writeE c data))]) := by
  have hcall := nf62 c f at_ (.view (byteRows data)) 66 [.vptr c.cells] (writeE c data) (writeV data) hl hd (byteRows_pur data) (by
    intro x hx
    simp only [List.mem_cons, List.not_mem_nil, or_false] at hx
    subst hx; exact .vptr (cells_pur c)) ⟨_, Try.func66, rfl, rfl⟩ (fun hok a u hat hu => do66 c data hdl hu)
  generalize turnF c f at_ (writeE c data) (writeV data) = FF at hcall ⊢
  generalize turnE c f at_ (writeE c data) = EE at hcall ⊢
  refine nf_of_w0 Try.func25 (c := _) rfl rfl (Nat.le_of_ble_eq_true rfl) (by
    intro x hx
    simp only [List.mem_cons, List.not_mem_nil, or_false] at hx
    rcases hx with rfl | rfl | rfl | rfl
    · exact cf_pur c
    · exact fsa_pur f
    · exact .int _ _
    · exact byteRows_pur data) ?_
  rw [show Try.f25.ntmps = 18 from rfl]
  have hfp : ∀ x, x ∈ f.cells → Pur x := fs_pur f
  have tE := And.intro (@upd_upd AV) <| And.intro (@upd_upd (Option Blk)) <| And.intro Cf.cells.eq_1 <| And.intro Fs.cells.eq_1 <| And.intro ty3 <| And.intro ty4 <| And.intro ty5 <| And.intro ty23 <| And.intro ty24 <| And.intro ty26 <| And.intro ty34 <| And.intro ty35 <| And.intro ty37 <| Try.results25; repeat' first | ((with_reducible first | apply w_seq | apply w_region | apply wl_nil | apply wr_nil | apply wr_nilA | apply wr_nilE | apply go_normal | apply go_ret | apply go_exit | apply blk_normal | apply blk_ret | apply blk_here | apply w_block | apply w_skip | apply w_exit | apply w_label)) | ((with_reducible first | apply wz (tok Try.prog) | apply wr_z (tok Try.prog)); exact zZ; decide) | ((with_reducible first | apply w_alloc (tok Try.prog)); exact zT; decide) | fail
  all_goals try clear tE
  (have tE := And.intro (@upd_upd AV) <| And.intro (@upd_upd (Option Blk)) <| And.intro Cf.cells.eq_1 <| Fs.cells.eq_1; (with_reducible apply wacall); exact zV; exact zVs; exact zAs; exact ⟨_, Try.func62, rfl, rfl⟩; (focus (with_unfolding_all exact hcall.ac _ _)); decide; clear tE)
  rintro r H' n' ⟨hn', hold, htop, x, y, rfl, hown, rfl⟩
  obtain ⟨xs, rfl, hxs⟩ := hown.tuple_inv
  obtain ⟨x1, r1, rfl, ho1, hr1⟩ := hxs.cons_inv
  obtain ⟨x2, r2, rfl, ho2, hr2⟩ := hr1.cons_inv
  obtain rfl := hr2.nil_inv
  obtain rfl := ho2.int_inv
  obtain ⟨ys, rfl, hys⟩ := ho1.agg_inv
  obtain ⟨y1, s1, rfl, hy1, hs1⟩ := hys.cons_inv
  obtain ⟨y2, s2, rfl, hy2, hs2⟩ := hs1.cons_inv
  obtain rfl := hs2.nil_inv
  obtain rfl := hy2.int_inv
  have e0 := hold 0 _ rfl
  rcases own_shape hy1 with rfl | ⟨_, _, _, _, _, rfl⟩
  all_goals
    have tE := And.intro (@upd_upd AV) <| And.intro (@upd_upd (Option Blk)) <| And.intro e0 <| And.intro ty3 <| And.intro ty4 <| And.intro ty5 <| And.intro ty23 <| And.intro ty24 <| And.intro ty26 <| And.intro ty34 <| And.intro ty35 <| And.intro ty37 <| Try.results25; repeat' first | ((with_reducible first | apply w_seq | apply w_region | apply wl_nil | apply wr_nil | apply wr_nilA | apply wr_nilE | apply go_normal | apply go_ret | apply go_exit | apply blk_normal | apply blk_ret | apply blk_here | apply w_block | apply w_skip | apply w_exit | apply w_label)) | ((with_reducible first | apply wz (tok Try.prog) | apply wr_z (tok Try.prog)); exact zZ; decide) | ((with_reducible first | apply w_store (tok Try.prog)); exact zV; exact zV; exact zS) | ((with_reducible apply w_ret); (repeat (with_reducible first | apply go_ret | apply blk_ret)); (with_reducible first | apply donef_ret (tok Try.prog) | apply doneA_ret (tok Try.prog)); exact zT; exact zD) | fail
    all_goals try clear tE
    refine ⟨_, _, rfl, OwnL.tuple (.cons (OwnL.agg (.cons (hy1.mv (fun id c hid hc => ⟨trivial, ?_⟩)) (.cons (.int _ _) .nil))) (.cons (.int _ _) .nil)), rfl⟩
    have hid : 1 ≤ id := hid
    rw [upd_ne _ _ (by omega)]; exact hc
theorem nf27 (c : Cf) (f : Fs) (at_ : Int) (hl : f.l.length ≤ 1000000) (hd : ∀ x, x ∈ f.l → x.d.length ≤ 1000000 ∧ x.pins.length ≤ 1000000) : NF Try.prog 27 [.agg c.cells, .agg f.cells, .int .i64 at_] (fun r => r = .tuple [.agg (turnF c f at_ (cleanE) (cleanV)).cells, .int .i64 (turnE c f at_ (cleanE))]) := by
  have hcall := nf56 c f at_ (.int .i64 0) 67 [] (cleanE) (cleanV) hl hd (.int _ _) (fun x hx => by cases hx) ⟨_, Try.func67, rfl, rfl⟩ (fun hok a u hat hu => do67 0 hu)
  generalize turnF c f at_ (cleanE) (cleanV) = FF at hcall ⊢
  generalize turnE c f at_ (cleanE) = EE at hcall ⊢
  refine nf_of_w0 Try.func27 (c := _) rfl rfl (Nat.le_of_ble_eq_true rfl) (by
    intro x hx
    simp only [List.mem_cons, List.not_mem_nil, or_false] at hx
    rcases hx with rfl | rfl | rfl
    · exact cf_pur c
    · exact fsa_pur f
    · exact .int _ _) ?_
  rw [show Try.f27.ntmps = 14 from rfl]
  have hfp : ∀ x, x ∈ f.cells → Pur x := fs_pur f
  have tE := And.intro (@upd_upd AV) <| And.intro (@upd_upd (Option Blk)) <| And.intro Cf.cells.eq_1 <| And.intro Fs.cells.eq_1 <| And.intro ty3 <| And.intro ty4 <| And.intro ty5 <| And.intro ty23 <| And.intro ty24 <| And.intro ty26 <| And.intro ty34 <| And.intro ty35 <| And.intro ty37 <| Try.results27; repeat' first | ((with_reducible first | apply w_seq | apply w_region | apply wl_nil | apply wr_nil | apply wr_nilA | apply wr_nilE | apply go_normal | apply go_ret | apply go_exit | apply blk_normal | apply blk_ret | apply blk_here | apply w_block | apply w_skip | apply w_exit | apply w_label)) | ((with_reducible first | apply wz (tok Try.prog) | apply wr_z (tok Try.prog)); exact zZ; decide) | ((with_reducible first | apply w_alloc (tok Try.prog)); exact zT; decide) | fail
  all_goals try clear tE
  (have tE := And.intro (@upd_upd AV) <| And.intro (@upd_upd (Option Blk)) <| And.intro Cf.cells.eq_1 <| Fs.cells.eq_1; (with_reducible apply wacall); exact zV; exact zVs; exact zAs; exact ⟨_, Try.func56, rfl, rfl⟩; (focus (with_unfolding_all exact hcall.ac _ _)); decide; clear tE)
  rintro r H' n' ⟨hn', hold, htop, x, y, rfl, hown, rfl⟩
  obtain ⟨xs, rfl, hxs⟩ := hown.tuple_inv
  obtain ⟨x1, r1, rfl, ho1, hr1⟩ := hxs.cons_inv
  obtain ⟨x2, r2, rfl, ho2, hr2⟩ := hr1.cons_inv
  obtain rfl := hr2.nil_inv
  obtain rfl := ho2.int_inv
  obtain ⟨ys, rfl, hys⟩ := ho1.agg_inv
  obtain ⟨y1, s1, rfl, hy1, hs1⟩ := hys.cons_inv
  obtain ⟨y2, s2, rfl, hy2, hs2⟩ := hs1.cons_inv
  obtain rfl := hs2.nil_inv
  obtain rfl := hy2.int_inv
  have e0 := hold 0 _ rfl
  rcases own_shape hy1 with rfl | ⟨_, _, _, _, _, rfl⟩
  all_goals
    have tE := And.intro (@upd_upd AV) <| And.intro (@upd_upd (Option Blk)) <| And.intro e0 <| And.intro ty3 <| And.intro ty4 <| And.intro ty5 <| And.intro ty23 <| And.intro ty24 <| And.intro ty26 <| And.intro ty34 <| And.intro ty35 <| And.intro ty37 <| Try.results27; repeat' first | ((with_reducible first | apply w_seq | apply w_region | apply wl_nil | apply wr_nil | apply wr_nilA | apply wr_nilE | apply go_normal | apply go_ret | apply go_exit | apply blk_normal | apply blk_ret | apply blk_here | apply w_block | apply w_skip | apply w_exit | apply w_label)) | ((with_reducible first | apply wz (tok Try.prog) | apply wr_z (tok Try.prog)); exact zZ; decide) | ((with_reducible first | apply w_store (tok Try.prog)); exact zV; exact zV; exact zS) | ((with_reducible apply w_ret); (repeat (with_reducible first | apply go_ret | apply blk_ret)); (with_reducible first | apply donef_ret (tok Try.prog) | apply doneA_ret (tok Try.prog)); exact zT; exact zD) | fail
    all_goals try clear tE
    refine ⟨_, _, rfl, OwnL.tuple (.cons (OwnL.agg (.cons (hy1.mv (fun id c hid hc => ⟨trivial, ?_⟩)) (.cons (.int _ _) .nil))) (.cons (.int _ _) .nil)), rfl⟩
    have hid : 1 ≤ id := hid
    rw [upd_ne _ _ (by omega)]; exact hc
theorem nf42 (c : Cf) (f : Fs) (at_ cl : Int) (hl : f.l.length ≤ 1000000) (hd : ∀ x, x ∈ f.l → x.d.length ≤ 1000000 ∧ x.pins.length ≤ 1000000) : NF Try.prog 42 [.agg c.cells, .agg f.cells, .int .i64 at_, .int .i64 cl] (fun r => r = .tuple [.agg (turnF c f at_ (fun u => pinE c u cl) (fun u => pinV u cl)).cells, .int .i64 (turnE c f at_ (fun u => pinE c u cl))]) := by
  have hcall := nf56 c f at_ (.int .i64 cl) 81 [.vptr c.cells] (fun u => pinE c u cl) (fun u => pinV u cl) hl hd (.int _ _) (by
    intro x hx
    simp only [List.mem_cons, List.not_mem_nil, or_false] at hx
    subst hx; exact .vptr (cells_pur c)) ⟨_, Try.func81, rfl, rfl⟩ (fun hok a u hat hu => by subst hat; have h := okF_parts hok; have hm := may_pins (okL_may h.2.2.2.2 u (List.mem_of_getElem? hu)); exact do81 c cl hu hm.1 hm.2 (hd u (List.mem_of_getElem? hu)).2)
  generalize turnF c f at_ (fun u => pinE c u cl) (fun u => pinV u cl) = FF at hcall ⊢
  generalize turnE c f at_ (fun u => pinE c u cl) = EE at hcall ⊢
  refine nf_of_w0 Try.func42 (c := _) rfl rfl (Nat.le_of_ble_eq_true rfl) (by
    intro x hx
    simp only [List.mem_cons, List.not_mem_nil, or_false] at hx
    rcases hx with rfl | rfl | rfl | rfl
    · exact cf_pur c
    · exact fsa_pur f
    · exact .int _ _
    · exact .int _ _) ?_
  rw [show Try.f42.ntmps = 18 from rfl]
  have hfp : ∀ x, x ∈ f.cells → Pur x := fs_pur f
  have tE := And.intro (@upd_upd AV) <| And.intro (@upd_upd (Option Blk)) <| And.intro Cf.cells.eq_1 <| And.intro Fs.cells.eq_1 <| And.intro ty3 <| And.intro ty4 <| And.intro ty5 <| And.intro ty23 <| And.intro ty24 <| And.intro ty26 <| And.intro ty34 <| And.intro ty35 <| And.intro ty37 <| Try.results42; repeat' first | ((with_reducible first | apply w_seq | apply w_region | apply wl_nil | apply wr_nil | apply wr_nilA | apply wr_nilE | apply go_normal | apply go_ret | apply go_exit | apply blk_normal | apply blk_ret | apply blk_here | apply w_block | apply w_skip | apply w_exit | apply w_label)) | ((with_reducible first | apply wz (tok Try.prog) | apply wr_z (tok Try.prog)); exact zZ; decide) | ((with_reducible first | apply w_alloc (tok Try.prog)); exact zT; decide) | fail
  all_goals try clear tE
  (have tE := And.intro (@upd_upd AV) <| And.intro (@upd_upd (Option Blk)) <| And.intro Cf.cells.eq_1 <| Fs.cells.eq_1; (with_reducible apply wacall); exact zV; exact zVs; exact zAs; exact ⟨_, Try.func56, rfl, rfl⟩; (focus (with_unfolding_all exact hcall.ac _ _)); decide; clear tE)
  rintro r H' n' ⟨hn', hold, htop, x, y, rfl, hown, rfl⟩
  obtain ⟨xs, rfl, hxs⟩ := hown.tuple_inv
  obtain ⟨x1, r1, rfl, ho1, hr1⟩ := hxs.cons_inv
  obtain ⟨x2, r2, rfl, ho2, hr2⟩ := hr1.cons_inv
  obtain rfl := hr2.nil_inv
  obtain rfl := ho2.int_inv
  obtain ⟨ys, rfl, hys⟩ := ho1.agg_inv
  obtain ⟨y1, s1, rfl, hy1, hs1⟩ := hys.cons_inv
  obtain ⟨y2, s2, rfl, hy2, hs2⟩ := hs1.cons_inv
  obtain rfl := hs2.nil_inv
  obtain rfl := hy2.int_inv
  have e0 := hold 0 _ rfl
  rcases own_shape hy1 with rfl | ⟨_, _, _, _, _, rfl⟩
  all_goals
    have tE := And.intro (@upd_upd AV) <| And.intro (@upd_upd (Option Blk)) <| And.intro e0 <| And.intro ty3 <| And.intro ty4 <| And.intro ty5 <| And.intro ty23 <| And.intro ty24 <| And.intro ty26 <| And.intro ty34 <| And.intro ty35 <| And.intro ty37 <| Try.results42; repeat' first | ((with_reducible first | apply w_seq | apply w_region | apply wl_nil | apply wr_nil | apply wr_nilA | apply wr_nilE | apply go_normal | apply go_ret | apply go_exit | apply blk_normal | apply blk_ret | apply blk_here | apply w_block | apply w_skip | apply w_exit | apply w_label)) | ((with_reducible first | apply wz (tok Try.prog) | apply wr_z (tok Try.prog)); exact zZ; decide) | ((with_reducible first | apply w_store (tok Try.prog)); exact zV; exact zV; exact zS) | ((with_reducible apply w_ret); (repeat (with_reducible first | apply go_ret | apply blk_ret)); (with_reducible first | apply donef_ret (tok Try.prog) | apply doneA_ret (tok Try.prog)); exact zT; exact zD) | fail
    all_goals try clear tE
    refine ⟨_, _, rfl, OwnL.tuple (.cons (OwnL.agg (.cons (hy1.mv (fun id c hid hc => ⟨trivial, ?_⟩)) (.cons (.int _ _) .nil))) (.cons (.int _ _) .nil)), rfl⟩
    have hid : 1 ≤ id := hid
    rw [upd_ne _ _ (by omega)]; exact hc
theorem nf43 (c : Cf) (f : Fs) (at_ cl : Int) (hl : f.l.length ≤ 1000000) (hd : ∀ x, x ∈ f.l → x.d.length ≤ 1000000 ∧ x.pins.length ≤ 1000000) : NF Try.prog 43 [.agg c.cells, .agg f.cells, .int .i64 at_, .int .i64 cl] (fun r => r = .tuple [.agg (turnF c f at_ (fun u => unpinE c u cl) (fun u => unpinV u cl)).cells, .int .i64 (turnE c f at_ (fun u => unpinE c u cl))]) := by
  have hcall := nf56 c f at_ (.int .i64 cl) 82 [.vptr c.cells] (fun u => unpinE c u cl) (fun u => unpinV u cl) hl hd (.int _ _) (by
    intro x hx
    simp only [List.mem_cons, List.not_mem_nil, or_false] at hx
    subst hx; exact .vptr (cells_pur c)) ⟨_, Try.func82, rfl, rfl⟩ (fun hok a u hat hu => by subst hat; have h := okF_parts hok; have hm := may_pins (okL_may h.2.2.2.2 u (List.mem_of_getElem? hu)); exact do82 c cl hu hm.1 hm.2 (hd u (List.mem_of_getElem? hu)).2)
  generalize turnF c f at_ (fun u => unpinE c u cl) (fun u => unpinV u cl) = FF at hcall ⊢
  generalize turnE c f at_ (fun u => unpinE c u cl) = EE at hcall ⊢
  refine nf_of_w0 Try.func43 (c := _) rfl rfl (Nat.le_of_ble_eq_true rfl) (by
    intro x hx
    simp only [List.mem_cons, List.not_mem_nil, or_false] at hx
    rcases hx with rfl | rfl | rfl | rfl
    · exact cf_pur c
    · exact fsa_pur f
    · exact .int _ _
    · exact .int _ _) ?_
  rw [show Try.f43.ntmps = 18 from rfl]
  have hfp : ∀ x, x ∈ f.cells → Pur x := fs_pur f
  have tE := And.intro (@upd_upd AV) <| And.intro (@upd_upd (Option Blk)) <| And.intro Cf.cells.eq_1 <| And.intro Fs.cells.eq_1 <| And.intro ty3 <| And.intro ty4 <| And.intro ty5 <| And.intro ty23 <| And.intro ty24 <| And.intro ty26 <| And.intro ty34 <| And.intro ty35 <| And.intro ty37 <| Try.results43; repeat' first | ((with_reducible first | apply w_seq | apply w_region | apply wl_nil | apply wr_nil | apply wr_nilA | apply wr_nilE | apply go_normal | apply go_ret | apply go_exit | apply blk_normal | apply blk_ret | apply blk_here | apply w_block | apply w_skip | apply w_exit | apply w_label)) | ((with_reducible first | apply wz (tok Try.prog) | apply wr_z (tok Try.prog)); exact zZ; decide) | ((with_reducible first | apply w_alloc (tok Try.prog)); exact zT; decide) | fail
  all_goals try clear tE
  (have tE := And.intro (@upd_upd AV) <| And.intro (@upd_upd (Option Blk)) <| And.intro Cf.cells.eq_1 <| Fs.cells.eq_1; (with_reducible apply wacall); exact zV; exact zVs; exact zAs; exact ⟨_, Try.func56, rfl, rfl⟩; (focus (with_unfolding_all exact hcall.ac _ _)); decide; clear tE)
  rintro r H' n' ⟨hn', hold, htop, x, y, rfl, hown, rfl⟩
  obtain ⟨xs, rfl, hxs⟩ := hown.tuple_inv
  obtain ⟨x1, r1, rfl, ho1, hr1⟩ := hxs.cons_inv
  obtain ⟨x2, r2, rfl, ho2, hr2⟩ := hr1.cons_inv
  obtain rfl := hr2.nil_inv
  obtain rfl := ho2.int_inv
  obtain ⟨ys, rfl, hys⟩ := ho1.agg_inv
  obtain ⟨y1, s1, rfl, hy1, hs1⟩ := hys.cons_inv
  obtain ⟨y2, s2, rfl, hy2, hs2⟩ := hs1.cons_inv
  obtain rfl := hs2.nil_inv
  obtain rfl := hy2.int_inv
  have e0 := hold 0 _ rfl
  rcases own_shape hy1 with rfl | ⟨_, _, _, _, _, rfl⟩
  all_goals
    have tE := And.intro (@upd_upd AV) <| And.intro (@upd_upd (Option Blk)) <| And.intro e0 <| And.intro ty3 <| And.intro ty4 <| And.intro ty5 <| And.intro ty23 <| And.intro ty24 <| And.intro ty26 <| And.intro ty34 <| And.intro ty35 <| And.intro ty37 <| Try.results43; repeat' first | ((with_reducible first | apply w_seq | apply w_region | apply wl_nil | apply wr_nil | apply wr_nilA | apply wr_nilE | apply go_normal | apply go_ret | apply go_exit | apply blk_normal | apply blk_ret | apply blk_here | apply w_block | apply w_skip | apply w_exit | apply w_label)) | ((with_reducible first | apply wz (tok Try.prog) | apply wr_z (tok Try.prog)); exact zZ; decide) | ((with_reducible first | apply w_store (tok Try.prog)); exact zV; exact zV; exact zS) | ((with_reducible apply w_ret); (repeat (with_reducible first | apply go_ret | apply blk_ret)); (with_reducible first | apply donef_ret (tok Try.prog) | apply doneA_ret (tok Try.prog)); exact zT; exact zD) | fail
    all_goals try clear tE
    refine ⟨_, _, rfl, OwnL.tuple (.cons (OwnL.agg (.cons (hy1.mv (fun id c hid hc => ⟨trivial, ?_⟩)) (.cons (.int _ _) .nil))) (.cons (.int _ _) .nil)), rfl⟩
    have hid : 1 ≤ id := hid
    rw [upd_ne _ _ (by omega)]; exact hc
theorem nf21 (c : Cf) (f : Fs) (at_ page cl : Int) (hl : f.l.length ≤ 1000000) (hd : ∀ x, x ∈ f.l → x.d.length ≤ 1000000 ∧ x.pins.length ≤ 1000000) : NF Try.prog 21 [.agg c.cells, .agg f.cells, .int .i64 at_, .int .i64 page, .int .i64 cl] (fun r => r = .tuple [.agg (turnF c f at_ (fun u => loadE c f at_ page cl u) (fun u => loadV c page cl u)).cells, .int .i64 (turnE c f at_ (fun u => loadE c f at_ page cl u))]) := by
  have hcall := nf56 c f at_ (.int .i64 cl) 57 [.vptr f.cells, .vptr [.int .i64 page], .vptr c.cells, .vptr [.int .i64 at_]] (fun u => loadE c f at_ page cl u) (fun u => loadV c page cl u) hl hd (.int _ _) (by
    intro x hx
    simp only [List.mem_cons, List.not_mem_nil, or_false] at hx
    rcases hx with rfl | rfl | rfl | rfl
    · exact .vptr (fs_pur f)
    · exact .vptr (args_1 (.int _ _))
    · exact .vptr (cells_pur c)
    · exact .vptr (args_1 (.int _ _))) ⟨_, Try.func57, rfl, rfl⟩ (fun hok a u hat hu => by subst hat; have h := okF_parts hok; have hg := good_cl h.1; exact do57 c f page cl hl (hd u (List.mem_of_getElem? hu)).2 ⟨by omega, by omega⟩ hu)
  generalize turnF c f at_ (fun u => loadE c f at_ page cl u) (fun u => loadV c page cl u) = FF at hcall ⊢
  generalize turnE c f at_ (fun u => loadE c f at_ page cl u) = EE at hcall ⊢
  refine nf_of_w0 Try.func21 (c := _) rfl rfl (Nat.le_of_ble_eq_true rfl) (by
    intro x hx
    simp only [List.mem_cons, List.not_mem_nil, or_false] at hx
    rcases hx with rfl | rfl | rfl | rfl | rfl
    · exact cf_pur c
    · exact fsa_pur f
    · exact .int _ _
    · exact .int _ _
    · exact .int _ _) ?_
  rw [show Try.f21.ntmps = 20 from rfl]
  have hfp : ∀ x, x ∈ f.cells → Pur x := fs_pur f
  have tE := And.intro (@upd_upd AV) <| And.intro (@upd_upd (Option Blk)) <| And.intro Cf.cells.eq_1 <| And.intro Fs.cells.eq_1 <| And.intro ty3 <| And.intro ty4 <| And.intro ty5 <| And.intro ty23 <| And.intro ty24 <| And.intro ty26 <| And.intro ty34 <| And.intro ty35 <| And.intro ty37 <| Try.results21; repeat' first | ((with_reducible first | apply w_seq | apply w_region | apply wl_nil | apply wr_nil | apply wr_nilA | apply wr_nilE | apply go_normal | apply go_ret | apply go_exit | apply blk_normal | apply blk_ret | apply blk_here | apply w_block | apply w_skip | apply w_exit | apply w_label)) | ((with_reducible first | apply wz (tok Try.prog) | apply wr_z (tok Try.prog)); exact zZ; decide) | ((with_reducible first | apply w_alloc (tok Try.prog)); exact zT; decide) | fail
  all_goals try clear tE
  (have tE := And.intro (@upd_upd AV) <| And.intro (@upd_upd (Option Blk)) <| And.intro Cf.cells.eq_1 <| Fs.cells.eq_1; (with_reducible apply wacall); exact zV; exact zVs; exact zAs; exact ⟨_, Try.func56, rfl, rfl⟩; (focus (with_unfolding_all exact hcall.ac _ _)); decide; clear tE)
  rintro r H' n' ⟨hn', hold, htop, x, y, rfl, hown, rfl⟩
  obtain ⟨xs, rfl, hxs⟩ := hown.tuple_inv
  obtain ⟨x1, r1, rfl, ho1, hr1⟩ := hxs.cons_inv
  obtain ⟨x2, r2, rfl, ho2, hr2⟩ := hr1.cons_inv
  obtain rfl := hr2.nil_inv
  obtain rfl := ho2.int_inv
  obtain ⟨ys, rfl, hys⟩ := ho1.agg_inv
  obtain ⟨y1, s1, rfl, hy1, hs1⟩ := hys.cons_inv
  obtain ⟨y2, s2, rfl, hy2, hs2⟩ := hs1.cons_inv
  obtain rfl := hs2.nil_inv
  obtain rfl := hy2.int_inv
  have e0 := hold 0 _ rfl
  rcases own_shape hy1 with rfl | ⟨_, _, _, _, _, rfl⟩
  all_goals
    have tE := And.intro (@upd_upd AV) <| And.intro (@upd_upd (Option Blk)) <| And.intro e0 <| And.intro ty3 <| And.intro ty4 <| And.intro ty5 <| And.intro ty23 <| And.intro ty24 <| And.intro ty26 <| And.intro ty34 <| And.intro ty35 <| And.intro ty37 <| Try.results21; repeat' first | ((with_reducible first | apply w_seq | apply w_region | apply wl_nil | apply wr_nil | apply wr_nilA | apply wr_nilE | apply go_normal | apply go_ret | apply go_exit | apply blk_normal | apply blk_ret | apply blk_here | apply w_block | apply w_skip | apply w_exit | apply w_label)) | ((with_reducible first | apply wz (tok Try.prog) | apply wr_z (tok Try.prog)); exact zZ; decide) | ((with_reducible first | apply w_store (tok Try.prog)); exact zV; exact zV; exact zS) | ((with_reducible apply w_ret); (repeat (with_reducible first | apply go_ret | apply blk_ret)); (with_reducible first | apply donef_ret (tok Try.prog) | apply doneA_ret (tok Try.prog)); exact zT; exact zD) | fail
    all_goals try clear tE
    refine ⟨_, _, rfl, OwnL.tuple (.cons (OwnL.agg (.cons (hy1.mv (fun id c hid hc => ⟨trivial, ?_⟩)) (.cons (.int _ _) .nil))) (.cons (.int _ _) .nil)), rfl⟩
    have hid : 1 ≤ id := hid
    rw [upd_ne _ _ (by omega)]; exact hc
end Go.Proofs.Ytlmighkbeacjnaa
