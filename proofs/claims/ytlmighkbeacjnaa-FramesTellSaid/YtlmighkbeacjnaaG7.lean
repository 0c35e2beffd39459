/- FramesStay: the law computes true. -/
import Derived.Test.YtlmighkbeacjnaaG6
open Go Go.Lg
set_option linter.unusedSimpArgs false
set_option linter.unusedVariables false
set_option maxHeartbeats 4000000
set_option maxRecDepth 20000
namespace Go.Proofs.Ytlmighkbeacjnaa
theorem args_3i {c : Cf} {f : Fs} {p : Int} : ∀ x, x ∈ [AV.agg c.cells, .agg f.cells, .int .i64 p] → Pur x := args_3 (cf_pur c) (fsa_pur f) (.int _ _)
theorem pf33_ok (c : Cf) (f : Fs) (page : Int) (hl : f.l.length ≤ 1000000) (hd : ∀ x, x ∈ f.l → x.pins.length ≤ 1000000) (hok : okF c f = true) (a : Nat) (ha : fidx (isAt page) f.l 0 = a) : PF Try.prog 33 [.agg c.cells, .agg f.cells, .int .i64 page] (fun r => r = .tuple [.int .i64 a, .bool true]) := by
  have ev : eF c f = 0 := by simp [eF, hok]
  have h11 := pf11 c f hl hd
  have h58 := pf58 f page hl
  rw [ha] at h58
  refine pf_of_w0 Try.func33 (c := _) rfl rfl (Nat.le_of_ble_eq_true rfl) args_3i ?_
  rw [show Try.f33.ntmps = 20 from rfl]
  have g1 : ((a : Int) ≥ 0) = True := eq_true (by omega)
  have hmx : max (a : Int) 0 = a := by omega
  have tE := And.intro (@upd_upd AV) <| And.intro (@upd_upd (Option Blk)) <| And.intro Cf.cells.eq_1 <| And.intro Fs.cells.eq_1 <| And.intro ev <| And.intro g1 <| And.intro hmx <| And.intro ty3 <| And.intro ty4 <| And.intro ty5 <| And.intro ty23 <| And.intro ty24 <| And.intro ty26 <| And.intro ty29 <| And.intro ty34 <| And.intro ty35 <| And.intro ty37 <| Try.results33; repeat' first | ((with_reducible first | apply w_seq | apply w_region | apply wl_nil | apply wr_nil | apply wr_nilA | apply wr_nilE | apply go_normal | apply go_ret | apply go_exit | apply blk_normal | apply blk_ret | apply blk_here | apply w_block | apply w_skip | apply w_exit | apply w_label)) | ((with_reducible first | apply wz (tok Try.prog) | apply wr_z (tok Try.prog)); exact zZ; decide) | ((with_reducible first | apply wcall' | apply wr_call); exact zV; exact zVs; exact zAs; (focus (with_unfolding_all first | exact h11 | exact h58)); decide) | ((with_reducible first | apply wp | apply wr_p); (focus (first | ((with_reducible first | apply pure_max); exact zV; exact zV) | ((with_reducible first | apply pure_bs1 (tok Try.prog)); exact zT; exact zU; exact zT; exact zP; exact zR; exact zC; decide; decide; exact zU; exact zU))); decide) | ((with_reducible first | apply w_iff'); exact zV; exact zU) | ((with_reducible apply w_ret); (repeat (with_reducible first | apply go_ret | apply blk_ret)); (with_reducible apply done_ret (tok Try.prog)); exact zT; exact zD; exact zX) | fail
  all_goals try clear tE
  have hn : ¬ (0 > (a : Int)) := by omega
  simp only [tup, if_neg hn]
theorem pf33_bad (c : Cf) (f : Fs) (page : Int) (hl : f.l.length ≤ 1000000) (hd : ∀ x, x ∈ f.l → x.pins.length ≤ 1000000) (hok : okF c f = false) : PF Try.prog 33 [.agg c.cells, .agg f.cells, .int .i64 page] (fun r => r = .tuple [.int .i64 0, .bool false]) := by
  have ev : eF c f = 8 := by simp [eF, hok]
  have h11 := pf11 c f hl hd
  refine pf_of_w0 Try.func33 (c := _) rfl rfl (Nat.le_of_ble_eq_true rfl) args_3i ?_
  rw [show Try.f33.ntmps = 20 from rfl]
  have tE := And.intro (@upd_upd AV) <| And.intro (@upd_upd (Option Blk)) <| And.intro Cf.cells.eq_1 <| And.intro Fs.cells.eq_1 <| And.intro ev <| And.intro ty3 <| And.intro ty4 <| And.intro ty5 <| And.intro ty23 <| And.intro ty24 <| And.intro ty26 <| And.intro ty29 <| And.intro ty34 <| And.intro ty35 <| And.intro ty37 <| Try.results33; repeat' first | ((with_reducible first | apply w_seq | apply w_region | apply wl_nil | apply wr_nil | apply wr_nilA | apply wr_nilE | apply go_normal | apply go_ret | apply go_exit | apply blk_normal | apply blk_ret | apply blk_here | apply w_block | apply w_skip | apply w_exit | apply w_label)) | ((with_reducible first | apply wz (tok Try.prog) | apply wr_z (tok Try.prog)); exact zZ; decide) | ((with_reducible first | apply wcall' | apply wr_call); exact zV; exact zVs; exact zAs; (focus (with_unfolding_all first | exact h11)); decide) | ((with_reducible first | apply w_ift'); exact zV; exact zU) | ((with_reducible apply w_ret); (repeat (with_reducible first | apply go_ret | apply blk_ret)); (with_reducible apply done_ret (tok Try.prog)); exact zT; exact zD; exact zX) | fail
  all_goals try clear tE
  rfl
theorem args_7 {c : Cf} {f : Fs} {a p cl : Int} {data : List UInt8} : ∀ x, x ∈ [AV.agg c.cells, .agg f.cells, .int .i64 a, .int .i64 p, .int .i64 cl, .view (byteRows data)] → Pur x := by
  intro x hx
  simp only [List.mem_cons, List.not_mem_nil, or_false] at hx
  rcases hx with rfl | rfl | rfl | rfl | rfl | rfl
  · exact cf_pur c
  · exact fsa_pur f
  · exact .int _ _
  · exact .int _ _
  · exact .int _ _
  · exact byteRows_pur data
theorem pf7_great (c : Cf) (f : Fs) (a p cl : Int) (data : List UInt8) (hg : greatF f.l = true ∨ data.length > 100) : PF Try.prog 7 [.agg c.cells, .agg f.cells, .int .i64 a, .int .i64 p, .int .i64 cl, .view (byteRows data)] (fun r => r = .bool true) := by
  refine pf_of_w0 Try.func7 (c := _) rfl rfl (Nat.le_of_ble_eq_true rfl) args_7 ?_
  rw [show Try.f7.ntmps = 195 from rfl]
  cases hg1 : greatF f.l with
  | true =>
    have tE := And.intro (@upd_upd AV) <| And.intro (@upd_upd (Option Blk)) <| And.intro Cf.cells.eq_1 <| And.intro Fs.cells.eq_1 <| And.intro hg1 <| And.intro ty3 <| And.intro ty4 <| And.intro ty5 <| And.intro ty23 <| And.intro ty24 <| And.intro ty26 <| And.intro ty29 <| And.intro ty34 <| And.intro ty35 <| And.intro ty37 <| And.intro ty75 <| And.intro ty76 <| Try.results7; repeat' first | ((with_reducible first | apply w_seq | apply w_region | apply wl_nil | apply wr_nil | apply wr_nilA | apply wr_nilE | apply go_normal | apply go_ret | apply go_exit | apply blk_normal | apply blk_ret | apply blk_here | apply w_block | apply w_skip | apply w_exit | apply w_label)) | ((with_reducible first | apply wz (tok Try.prog) | apply wr_z (tok Try.prog)); exact zZ; decide) | ((with_reducible first | apply wskip' | apply wr_skip); exact zU; exact zL; exact zU; decide) | ((with_reducible first | apply wcall' | apply wr_call); exact zV; exact zVs; exact zAs; (focus (with_unfolding_all first | exact pf9 | exact pf10 f)); decide) | ((with_reducible first | apply w_ift'); exact zV; exact zU) | ((with_reducible apply w_ret); (repeat (with_reducible first | apply go_ret | apply blk_ret)); (with_reducible apply done_ret (tok Try.prog)); exact zT; exact zD; exact zX) | fail
    all_goals try clear tE
    rfl
  | false =>
    have hd : ((data.length : Int) > 100) = True := by rw [hg1] at hg; simp at hg; simp; omega
    have tE := And.intro (@upd_upd AV) <| And.intro (@upd_upd (Option Blk)) <| And.intro Cf.cells.eq_1 <| And.intro Fs.cells.eq_1 <| And.intro hg1 <| And.intro hd <| And.intro byteRows_len <| And.intro ty3 <| And.intro ty4 <| And.intro ty5 <| And.intro ty23 <| And.intro ty24 <| And.intro ty26 <| And.intro ty29 <| And.intro ty34 <| And.intro ty35 <| And.intro ty37 <| And.intro ty75 <| And.intro ty76 <| Try.results7; repeat' first | ((with_reducible first | apply w_seq | apply w_region | apply wl_nil | apply wr_nil | apply wr_nilA | apply wr_nilE | apply go_normal | apply go_ret | apply go_exit | apply blk_normal | apply blk_ret | apply blk_here | apply w_block | apply w_skip | apply w_exit | apply w_label)) | ((with_reducible first | apply wz (tok Try.prog) | apply wr_z (tok Try.prog)); exact zZ; decide) | ((with_reducible first | apply wzg (tok Try.prog) | apply wr_zg (tok Try.prog)); exact zU; exact zL; exact zU; exact zZ; decide) | ((with_reducible first | apply wskip' | apply wr_skip); exact zU; exact zL; exact zU; decide) | ((with_reducible first | apply wcall' | apply wr_call); exact zV; exact zVs; exact zAs; (focus (with_unfolding_all first | exact pf9 | exact pf10 f)); decide) | ((with_reducible first | apply w_ift'); exact zV; exact zU) | ((with_reducible apply w_ret); (repeat (with_reducible first | apply go_ret | apply blk_ret)); (with_reducible apply done_ret (tok Try.prog)); exact zT; exact zD; exact zX) | fail
    all_goals try clear tE
    rfl
/-- Frames one behind another, as cells. -/
def fsRows (L : List Fs) : List (List AV) := L.map Fs.cells
theorem fsRows_row (L : List Fs) : ∀ r, r ∈ fsRows L → r.length = 2 := by
  intro r hr
  simp only [fsRows, List.mem_map] at hr
  obtain ⟨y, _, rfl⟩ := hr; rfl
theorem fsFlat_len (L : List Fs) : (fsRows L).flatten.length = L.length * 2 := by rw [flat_len (fsRows_row L)]; simp [fsRows]
theorem okF_small {c : Cf} {f : Fs} (h : okF c f = true) : f.l.length ≤ 1000000 ∧ ∀ x, x ∈ f.l → x.d.length ≤ 1000000 ∧ x.pins.length ≤ 1000000 := by
  obtain ⟨k1, k2, k3, k4, k5⟩ := okF_parts h
  have hok : c.ok = true := by simp only [Cf.good, Bool.and_eq_true] at k1; exact k1.1
  have hall : ∀ x, x ∈ c.spans → inB x = true := by simpa [Cf.ok] using hok
  simp only [Cf.spans, List.mem_cons, List.not_mem_nil, or_false, forall_eq_or_imp, forall_eq, inB] at hall
  simp at hall
  obtain ⟨o1, o2, o3⟩ := okL_iff.1 k5
  refine ⟨by omega, fun x hx => ?_⟩
  have hm := o1 x hx
  unfold mayF at hm
  simp only [Bool.and_eq_true, decide_eq_true_eq] at hm
  refine ⟨?_, by omega⟩
  have h2 := hm.2
  revert h2
  cases x.k == 0 <;> cases x.k == 1 <;> cases x.k == 2 <;> simp only [cond_true, cond_false, Bool.and_eq_true, decide_eq_true_eq, Bool.false_eq_true, false_implies] <;> intro h2 <;> omega
theorem oFlat_row {l : List Fr} {m : List (AV × AV)} {i : Nat} {v : Fr} {ab : AV × AV} (hu : l[i]? = some v) (hab : m[i]? = some ab) (u : Fr) : (((((((oRows l m).flatten.set (i * 6) (.int .u8 u.k)).set (i * 6 + 1) (.int .i64 u.p)).set (i * 6 + 2) (.view (byteRows u.d))).set (i * 6 + 3) (.view (intRows u.pins))).set (i * 6 + 4) (.bool u.rf)).set (i * 6 + 5) (.bool u.dt)) = (oRows (l.set i u) (m.set i (.view (byteRows u.d), .view (intRows u.pins)))).flatten := by
  have e0 := oFlat_wr (x := .int .u8 u.k) (u' := { v with k := u.k }) (ab' := ab) hu hab (j := 0) (by decide) rfl
  rw [Nat.add_zero] at e0
  have e1 := oFlat_wr (x := .int .i64 u.p) (u' := { v with k := u.k, p := u.p }) (ab' := ab) (set_at (y := { v with k := u.k }) hu) (set_at (y := ab) hab) (j := 1) (by decide) rfl
  rw [← e0, List.set_set, List.set_set] at e1
  have e2 := oFlat_wr (x := .view (byteRows u.d)) (u' := { v with k := u.k, p := u.p }) (ab' := (.view (byteRows u.d), ab.2)) (set_at (y := { v with k := u.k, p := u.p }) hu) (set_at (y := ab) hab) (j := 2) (by decide) rfl
  rw [← e1, List.set_set, List.set_set] at e2
  have e3 := oFlat_wr (x := .view (intRows u.pins)) (u' := { v with k := u.k, p := u.p }) (ab' := (.view (byteRows u.d), .view (intRows u.pins))) (set_at (y := { v with k := u.k, p := u.p }) hu) (set_at (y := (.view (byteRows u.d), ab.2)) hab) (j := 3) (by decide) rfl
  rw [← e2, List.set_set, List.set_set] at e3
  have e4 := oFlat_wr (x := .bool u.rf) (u' := { v with k := u.k, p := u.p, rf := u.rf }) (ab' := (.view (byteRows u.d), .view (intRows u.pins))) (set_at (y := { v with k := u.k, p := u.p }) hu) (set_at (y := (.view (byteRows u.d), .view (intRows u.pins))) hab) (j := 4) (by decide) rfl
  rw [← e3, List.set_set, List.set_set] at e4
  have e5 := oFlat_wr (x := .bool u.dt) (u' := u) (ab' := (.view (byteRows u.d), .view (intRows u.pins))) (set_at (y := { v with k := u.k, p := u.p, rf := u.rf }) hu) (set_at (y := (.view (byteRows u.d), .view (intRows u.pins))) hab) (j := 5) (by decide) rfl
  rw [← e4, List.set_set, List.set_set] at e5
  exact e5
theorem oRows_fz {H : Heap} : ∀ {l : List Fr} {m : List (AV × AV)}, m.length = l.length → (∀ (j : Nat) u ab, l[j]? = some u → m[j]? = some ab → Fz H ab.1 (.view (byteRows u.d)) ∧ Fz H ab.2 (.view (intRows u.pins))) → FzL H (oRows l m).flatten (frRows l).flatten
  | [], [], _, _ => .nil
  | [], _ :: _, h, _ => by simp at h
  | _ :: _, [], h, _ => by simp at h
  | u :: l, ab :: m, h, hm => .cons (.pur (.int _ _)) (.cons (.pur (.int _ _)) (.cons (hm 0 u ab rfl rfl).1 (.cons (hm 0 u ab rfl rfl).2 (.cons (.pur (.bool _)) (.cons (.pur (.bool _)) (oRows_fz (by simpa using h) (fun j u ab hu hab => hm (j + 1) u ab (by simpa using hu) (by simpa using hab))))))))
theorem fz_frRows {H : Heap} {b : Nat} {l : List Fr} {m : List (AV × AV)} (hH : H b = some (.cells (oRows l m).flatten 37)) (hl : m.length = l.length) (hm : ∀ (j : Nat) u ab, l[j]? = some u → m[j]? = some ab → Fz H ab.1 (.view (byteRows u.d)) ∧ Fz H ab.2 (.view (intRows u.pins))) : Fz H (.slice b 0 l.length none 6) (.view (frRows l)) := by
  have hf := oRows_fz hl hm
  have h1 := flat_len (frRows_row l)
  rw [frRows_len] at h1
  have := Fz.slice (off := 0) (len := l.length) (cap := none) (sz := 6) hH (by rw [oFlat_len hl]; omega) h1 (fun i x y hx hy => hf.get.2 i x y (by simpa using hx) hy)
  have h2 := chunk_flatten (frRows_row l)
  rw [frRows_len] at h2
  rwa [h2] at this
theorem okF_nil {c : Cf} {f : Fs} (h : f.l = []) : okF c f = false := by
  cases e : okF c f with
  | false => rfl
  | true =>
    obtain ⟨_, _, k3, k4, _⟩ := okF_parts e
    rw [h] at k4; simp at k4; omega
theorem cal15 : Callable Try.prog 15 := ⟨_, Try.func15, rfl, rfl⟩
structure StI (L : List Fs) (es : List Int) (H : Heap) : Prop where
  h0 : H 0 = some (.cells (fsRows L).flatten 26)
  h1 : H 1 = some (.cells (intRows es).flatten 29)
theorem pf7_main (c : Cf) (f : Fs) (at_ page cl : Int) (data : List UInt8) (hg : greatF f.l = false) (hdl : data.length ≤ 100) : PF Try.prog 7 [.agg c.cells, .agg f.cells, .int .i64 at_, .int .i64 page, .int .i64 cl, .view (byteRows data)] (fun r => r = .bool true) := by
  obtain ⟨hl, hd⟩ := great_small hg
  have hlm : f.l.length ≤ 1000000 := by omega
  have hdm : ∀ x, x ∈ f.l → x.d.length ≤ 1000000 ∧ x.pins.length ≤ 1000000 := fun x hx => by have := hd x hx; omega
  have hdd : ((data.length : Int) > 100) = False := by simp; omega
  have h0 := (nf21 c f at_ page cl hlm hdm).pf
  have h1 := (nf23 c f at_ data hlm hdm (by omega)).pf
  have h2 := (nf42 c f at_ cl hlm hdm).pf
  have h3 := (nf43 c f at_ cl hlm hdm).pf
  have h4 := (nf25 c f at_ data hlm hdm (by omega)).pf
  have h5 := (nf27 c f at_ hlm hdm).pf
  have s0 := stay_load c f at_ page cl
  have s1 := stay_fill c f at_ data
  have s2 := stay_pin c f at_ cl
  have s3 := stay_unpin c f at_ cl
  have s4 := stay_write c f at_ data
  have s5 := stay_clean c f at_
  have hfind := load_find (c := c) (f := f) (at_ := at_) (page := page) (cl := cl)
  generalize turnF c f at_ (fun u => loadE c f at_ page cl u) (fun u => loadV c page cl u) = F0 at h0 s0 hfind
  generalize turnE c f at_ (fun u => loadE c f at_ page cl u) = e0 at h0 s0 hfind
  generalize turnF c f at_ (fillE c data) (fillV data) = F1 at h1 s1
  generalize turnE c f at_ (fillE c data) = e1 at h1 s1
  generalize turnF c f at_ (fun u => pinE c u cl) (fun u => pinV u cl) = F2 at h2 s2
  generalize turnE c f at_ (fun u => pinE c u cl) = e2 at h2 s2
  generalize turnF c f at_ (fun u => unpinE c u cl) (fun u => unpinV u cl) = F3 at h3 s3
  generalize turnE c f at_ (fun u => unpinE c u cl) = e3 at h3 s3
  generalize turnF c f at_ (writeE c data) (writeV data) = F4 at h4 s4
  generalize turnE c f at_ (writeE c data) = e4 at h4 s4
  generalize turnF c f at_ cleanE cleanV = F5 at h5 s5
  generalize turnE c f at_ cleanE = e5 at h5 s5
  have hS : ∀ (j : Nat) F e, [F0, F1, F2, F3, F4, F5][j]? = some F → [e0, e1, e2, e3, e4, e5][j]? = some e → StayP c f at_ F e := fun j F e hF he => by
    match j with
    | 0 => cases hF; cases he; exact s0
    | 1 => cases hF; cases he; exact s1
    | 2 => cases hF; cases he; exact s2
    | 3 => cases hF; cases he; exact s3
    | 4 => cases hF; cases he; exact s4
    | 5 => cases hF; cases he; exact s5
    | j + 6 => cases hF
  refine pf_of_w0 Try.func7 (c := _) rfl rfl (Nat.le_of_ble_eq_true rfl) args_7 ?_
  rw [show Try.f7.ntmps = 195 from rfl]
  have tE := And.intro (@upd_upd AV) <| And.intro (@upd_upd (Option Blk)) <| And.intro Cf.cells.eq_1 <| And.intro Fs.cells.eq_1 <| And.intro hg <| And.intro hdd <| And.intro byteRows_len <| And.intro ty3 <| And.intro ty4 <| And.intro ty5 <| And.intro ty23 <| And.intro ty24 <| And.intro ty26 <| And.intro ty29 <| And.intro ty34 <| And.intro ty35 <| And.intro ty37 <| And.intro ty75 <| And.intro ty76 <| Try.results7; repeat' first | ((with_reducible first | apply w_seq | apply w_region | apply wl_nil | apply wr_nil | apply wr_nilA | apply wr_nilE | apply go_normal | apply go_ret | apply go_exit | apply blk_normal | apply blk_ret | apply blk_here | apply w_block | apply w_skip | apply w_exit | apply w_label)) | ((with_reducible first | apply wz (tok Try.prog) | apply wr_z (tok Try.prog)); exact zZ; decide) | ((with_reducible first | apply wzg (tok Try.prog) | apply wr_zg (tok Try.prog)); exact zU; exact zL; exact zU; exact zZ; decide) | ((with_reducible first | apply w_mks (tok Try.prog)); exact zV; exact zV; exact zT; exact zU; exact zT; exact zKo; exact zKo; exact zKo; (focus (first | exact zR | exact zU)); exact zU; decide) | ((with_reducible first | apply w_store (tok Try.prog)); exact zV; exact zV; exact zS) | ((with_reducible first | apply wcall' | apply wr_call); exact zV; exact zVs; exact zAs; (focus (with_unfolding_all first | exact pf9 | exact pf10 f | exact h0 | exact h1 | exact h2 | exact h3 | exact h4 | exact h5)); decide) | ((with_reducible first | apply w_iff'); exact zV; exact zU) | fail
  all_goals try clear tE
  generalize hL : [F0, F1, F2, F3, F4, F5] = L at hS
  generalize he : [e0, e1, e2, e3, e4, e5] = es at hS
  have hLl : L.length = 6 := by rw [← hL]; rfl
  have hel : es.length = 6 := by rw [← he]; rfl
  have hcv : Pur (.vptr c.cells) := .vptr (cells_pur c)
  have hfv : Pur (.vptr f.cells) := .vptr (fs_pur f)
  refine w_loopP (S := Nat) (fun i => [(2, .int .i64 at_), (3, .int .i64 page), (6, .vptr c.cells), (7, .vptr f.cells), (13, .bool true), (14, .slice 0 0 6 (some 6) 2), (15, .slice 1 0 6 (some 6) 1), (16, .int .i64 (i : Int))]) [] (fun i H k => i ≤ 6 ∧ 2 ≤ k ∧ StI L es H) (fun i => 6 - i) 0 ?_ rfl ?_ ?_
  · (have tE := And.intro (@upd_upd AV) <| And.intro (@upd_upd (Option Blk)) <| Fs.cells.eq_1; simp only [fitsT, List.take_zero, List.length_nil, sp_cons, sp_nil, upd_b, Nat.reduceBEq, cond_true, cond_false, args0_zero, args0_succ, args0_nil, tE]; repeat' first | exact trivial | apply And.intro | exact Sub.refl _ | exact Sub.cap)
  · refine ⟨Nat.zero_le _, Nat.le_refl 2, ?_, ?_⟩
    · rw [← hL]; rfl
    · rw [← he]; rfl
  · rintro i H k ⟨hi, hk, hI⟩
    have hw : IntKind.i64.wrap ((i : Int) + 1) = ((i + 1 : Nat) : Int) := by rw [wrap64 (by omega) (by omega)]; rfl
    have E0 := hI.h0
    have E1 := hI.h1
    by_cases e : i < 6
    · have g1 : ((i : Int) < 6) = True := by simp; omega
      have g0 : (0 ≤ (i : Int)) = True := by simp
      obtain ⟨F, hF⟩ : ∃ F, L[i]? = some F := ⟨L[i]'(by omega), List.getElem?_eq_getElem _⟩
      obtain ⟨ei, hei⟩ : ∃ x, es[i]? = some x := ⟨es[i]'(by omega), List.getElem?_eq_getElem _⟩
      have hSi := hS i F ei hF hei
      have hFr : (fsRows L)[i]? = some [.view (frRows F.l), .int .i64 F.h] := by rw [fsRows, List.getElem?_map, hF]; rfl
      have her : (intRows es)[i]? = some [.int .i64 ei] := by rw [intRows, List.getElem?_map, hei]; rfl
      have r0 := flat_row (fsRows_row L) hFr
      have r1 : ((intRows es).flatten.drop i)[0]? = some (.int .i64 ei) := drop_head (by have := flat_at (intRows_row es) her (j := 0) (by omega); rw [Nat.mul_one, Nat.add_zero] at this; exact this)
      have r2 : ((fsRows L).flatten.drop (i * 2))[0]? = some (.view (frRows F.l)) := drop_head (by have := flat_at (fsRows_row L) hFr (j := 0) (by omega); rw [Nat.add_zero] at this; exact this)
      have b2 : (i * 2 + 1 ≤ (fsRows L).flatten.length) = True := by rw [fsFlat_len, hLl]; simp; omega
      have g2 : ((i : Int) < ((6 : Nat) : Int)) = True := by simp; omega
      have b0 : (2 ≤ ((fsRows L).flatten.drop (i * 2)).length) = True := by rw [List.length_drop, fsFlat_len, hLl]; simp; omega
      have b1 : (i + 1 ≤ (intRows es).flatten.length) = True := by rw [flat_len (intRows_row es), intRows_len, hel]; simp; omega
      by_cases hz : ei = 0
      · obtain ⟨a, u, v, hat, hu, hFe, hok⟩ := hSi.good hz
        have hokc := okF_small hok
        have h14 := ac14 F hokc.1 hokc.2
        have h11 := pf11 c F hokc.1 (fun x hx => (hokc.2 x hx).2)
        have hev : eF c F = 0 := by simp [eF, hok]
        rw [hev] at h11
        subst hz
        have hFl : F.l.length = f.l.length := by rw [hFe]; simp
        have hal := (List.getElem?_eq_some_iff.1 hu).1
        have n1 : ((F.l.length : Int) != (f.l.length : Int)) = false := by rw [hFl]; simp
        have a0 : ((a : Int) < 0) = False := eq_false (by omega)
        have a1 : ((a : Int) ≥ (f.l.length : Int)) = False := eq_false (by omega)
        subst hat
        have tE := And.intro (@upd_upd AV) <| And.intro (@upd_upd (Option Blk)) <| And.intro g1 <| And.intro g2 <| And.intro g0 <| And.intro Nat.mul_one <| And.intro Nat.add_zero <| And.intro E0 <| And.intro E1 <| And.intro r0 <| And.intro r1 <| And.intro r2 <| And.intro b0 <| And.intro b1 <| And.intro b2 <| And.intro hw <| And.intro n1 <| And.intro a0 <| And.intro a1 <| And.intro Cf.cells.eq_1 <| And.intro Fs.cells.eq_1 <| And.intro frRows_len <| And.intro ty3 <| And.intro ty4 <| And.intro ty5 <| And.intro ty23 <| And.intro ty24 <| And.intro ty26 <| And.intro ty29 <| And.intro ty34 <| And.intro ty35 <| And.intro ty37 <| And.intro ty75 <| And.intro ty76 <| Try.results7; repeat' first | ((with_reducible first | apply w_seq | apply w_region | apply wl_nil | apply wr_nil | apply wr_nilA | apply wr_nilE | apply go_normal | apply go_ret | apply go_exit | apply blk_normal | apply blk_ret | apply blk_here | apply w_block | apply w_skip | apply w_exit | apply w_label)) | ((with_reducible apply w_live (lvAt [[0, 1, 2, 3, 4, 5], [2, 3, 4, 5, 6, 7], [2, 3, 4, 5, 6, 7, 13], [13], [2, 3, 4, 5, 6, 7, 13], [2, 3, 4, 5, 6, 7, 13, 14], [2, 3, 4, 5, 6, 7, 13, 14, 15], [2, 3, 4, 5, 6, 7, 13, 14, 15], [2, 3, 4, 5, 6, 7, 13, 14, 15], [2, 3, 4, 5, 6, 7, 13, 14, 15], [2, 3, 5, 6, 7, 13, 14, 15], [2, 3, 6, 7, 13, 14, 15], [2, 3, 6, 7, 13, 14, 15], [2, 3, 6, 7, 13, 14, 15, 16], [2, 3, 6, 7, 13, 14, 15, 16], [2, 3, 6, 7, 13, 14, 15, 16], [2, 3, 6, 7, 13, 14, 15, 16], [], [2, 3, 6, 7, 13, 14, 15, 16], [], [2, 3, 6, 7, 13, 14, 15, 16], [2, 3, 6, 7, 13, 14, 15, 16, 17], [2, 3, 6, 7, 13, 14, 15, 16, 17], [], [2, 3, 6, 13, 14, 15], [2, 13, 15, 18, 19]])); (focus (simp only [lvAt_zero, lvAt_succ]; rfl)); exact zLv) | ((with_reducible first | apply wz (tok Try.prog) | apply wr_z (tok Try.prog)); exact zZ; decide) | ((with_reducible first | apply wzg (tok Try.prog) | apply wr_zg (tok Try.prog)); exact zU; exact zL; exact zU; exact zZ; decide) | ((with_reducible first | apply wcall' | apply wr_call); exact zV; exact zVs; exact zAs; (focus (with_unfolding_all first | exact h11)); decide) | ((with_reducible first | apply w_ift'); exact zV; exact zU) | ((with_reducible first | apply w_iff'); exact zV; exact zU) | ((with_reducible first | apply w_draw0 mixed); (focus (decide +kernel))) | fail
        all_goals try clear tE
        (have tE := And.intro (@upd_upd AV) <| And.intro (@upd_upd (Option Blk)) <| Fs.cells.eq_1; (with_reducible apply wacall); exact zV; exact zVs; exact zAs; exact cal14; (focus (with_unfolding_all exact h14 _ _)); decide; clear tE)
        rintro r H' k0 ⟨hn', hold, htop, α, rfl, hown⟩
        have hk0 : k ≤ k0 := hn'
        have e0' : H' 0 = some (.cells (fsRows L).flatten 26) := hold 0 _ E0
        have e1' : H' 1 = some (.cells (intRows es).flatten 29) := hold 1 _ E1
        rcases hown with ⟨hz, _⟩ | ⟨hs0, b, m, hb1, rfl, hbH, hmO⟩
        · have : F.l = [] := hz
          rw [this] at hFl; simp at hFl; omega
        have hb1 : k ≤ b := hb1
        have hbH : H' b = some (.cells (oRows F.l m).flatten 37) := hbH
        have hbk : b < k0 := by
          rcases Nat.lt_or_ge b k0 with hx | hx
          · exact hx
          · rw [htop b hx] at hbH; cases hbH
        have qb : (b == k0) = false := by rw [beq_eq_false_iff_ne]; omega
        have qk : (k0 == b) = false := by rw [beq_eq_false_iff_ne]; omega
        have hr := fr_row hu
        have c0 : (0 ≤ (a : Int)) = True := by simp
        have c1 : ((a : Int) < (f.l.length : Int)) = True := by simp; omega
        have c2 : ((a : Int) < (F.l.length : Int)) = True := by simp; omega
        have hfl := oFlat_len hmO.1
        have b6 : (a * 6 + 6 ≤ (oRows F.l m).flatten.length) = True := by rw [hfl]; simp; omega
        obtain ⟨ab, hab⟩ : ∃ ab, m[a]? = some ab := ⟨m[a]'(by rw [hmO.1, hFl]; exact hal), List.getElem?_eq_getElem _⟩
        have hFa : F.l[a]? = some v := by rw [hFe]; exact set_at hu
        have hset := oFlat_row hFa hab u
        have hFs : F.l.set a u = f.l := by rw [hFe]; exact set_back hu
        have hFh : F.h = f.h := by rw [hFe]
        rw [hFs] at hset
        have h15 := pf15 f f hlm (fun x hx => (hdm x hx).2)
        have hsame : sameF f f = true := by simp [sameF]
        rw [hsame] at h15
        have hl15 : AC Try.prog 15 [.agg [.slice b 0 F.l.length none 6, .int .i64 F.h], .agg f.cells] (upd (upd H' k0 (some (.cells [.slice b 0 F.l.length none 6, .int .i64 F.h] 26))) b (some (.cells (((((((oRows F.l m).flatten.set (a * 6) (.int .u8 u.k)).set (a * 6 + 1) (.int .i64 u.p)).set (a * 6 + 2) (.view (byteRows u.d))).set (a * 6 + 3) (.view (intRows u.pins))).set (a * 6 + 4) (.bool u.rf)).set (a * 6 + 5) (.bool u.dt)) 37))) (k0 + 1) (fun r h' n' => r = .ret (.bool true) ∧ h' = upd (upd H' k0 (some (.cells [.slice b 0 F.l.length none 6, .int .i64 F.h] 26))) b (some (.cells (((((((oRows F.l m).flatten.set (a * 6) (.int .u8 u.k)).set (a * 6 + 1) (.int .i64 u.p)).set (a * 6 + 2) (.view (byteRows u.d))).set (a * 6 + 3) (.view (intRows u.pins))).set (a * 6 + 4) (.bool u.rf)).set (a * 6 + 5) (.bool u.dt)) 37)) ∧ n' = k0 + 1) := by
          rw [hset, hFl, hFh]
          refine PF.look h15 (.bool _) _ _ (.cons (FzL.agg (.cons (fz_frRows (upd_same _ _ _) (by rw [List.length_set, hmO.1, hFl]) fun j w cd hw hcd => ?_) (.cons (.pur (.int _ _)) .nil))) (.cons (.pur (fsa_pur f)) .nil))
          by_cases hj : j = a
          · subst hj
            rw [hu] at hw
            rw [set_at hab] at hcd
            cases hw; cases hcd
            exact ⟨.pur (byteRows_pur _), .pur (intRows_pur _)⟩
          · have hwF : F.l[j]? = some w := by rw [hFe]; show (f.l.set a v)[j]? = _; rw [List.getElem?_set_ne (by omega)]; exact hw
            rw [List.getElem?_set_ne (by omega)] at hcd
            have hO := (hmO.2 j w cd hwF hcd).mono (S' := fun _ => True) (H' := upd (upd H' k0 (some (.cells [.slice b 0 f.l.length none 6, .int .i64 f.h] 26))) b (some (.cells (oRows f.l (m.set a (.view (byteRows u.d), .view (intRows u.pins)))).flatten 37))) (fun _ _ => trivial) (fun id x hid hx => by
              have hlt : id < k0 := by
                rcases Nat.lt_or_ge id k0 with hx' | hx'
                · exact hx'
                · rw [htop id hx'] at hx; cases hx
              rw [upd_ne _ _ hid.2, upd_ne _ _ (by omega)]; exact hx)
            exact ⟨hO.1.fz, hO.2.fz⟩
        have tE := And.intro (@upd_upd AV) <| And.intro (@upd_upd (Option Blk)) <| And.intro qb <| And.intro qk <| And.intro hr <| And.intro c0 <| And.intro c1 <| And.intro c2 <| And.intro hbH <| And.intro b6 <| And.intro hw <| And.intro Nat.add_zero <| And.intro Cf.cells.eq_1 <| And.intro Fs.cells.eq_1 <| And.intro frRows_len <| And.intro ty3 <| And.intro ty4 <| And.intro ty5 <| And.intro ty23 <| And.intro ty24 <| And.intro ty26 <| And.intro ty29 <| And.intro ty34 <| And.intro ty35 <| And.intro ty37 <| And.intro ty75 <| And.intro ty76 <| Try.results7; repeat' first | ((with_reducible first | apply w_seq | apply w_region | apply wl_nil | apply wr_nil | apply wr_nilA | apply wr_nilE | apply go_normal | apply go_ret | apply go_exit | apply blk_normal | apply blk_ret | apply blk_here | apply w_block | apply w_skip | apply w_exit | apply w_label)) | ((with_reducible apply w_live (lvAt [[0, 1, 2, 3, 4, 5], [2, 3, 4, 5, 6, 7], [2, 3, 4, 5, 6, 7, 13], [13], [2, 3, 4, 5, 6, 7, 13], [2, 3, 4, 5, 6, 7, 13, 14], [2, 3, 4, 5, 6, 7, 13, 14, 15], [2, 3, 4, 5, 6, 7, 13, 14, 15], [2, 3, 4, 5, 6, 7, 13, 14, 15], [2, 3, 4, 5, 6, 7, 13, 14, 15], [2, 3, 5, 6, 7, 13, 14, 15], [2, 3, 6, 7, 13, 14, 15], [2, 3, 6, 7, 13, 14, 15], [2, 3, 6, 7, 13, 14, 15, 16], [2, 3, 6, 7, 13, 14, 15, 16], [2, 3, 6, 7, 13, 14, 15, 16], [2, 3, 6, 7, 13, 14, 15, 16], [], [2, 3, 6, 7, 13, 14, 15, 16], [], [2, 3, 6, 7, 13, 14, 15, 16], [2, 3, 6, 7, 13, 14, 15, 16, 17], [2, 3, 6, 7, 13, 14, 15, 16, 17], [], [2, 3, 6, 13, 14, 15], [2, 13, 15, 18, 19]])); (focus (simp only [lvAt_zero, lvAt_succ]; rfl)); exact zLv) | ((with_reducible first | apply wz (tok Try.prog) | apply wr_z (tok Try.prog)); exact zZ; decide) | ((with_reducible first | apply w_alloc (tok Try.prog)); exact zT; decide) | ((with_reducible first | apply w_store (tok Try.prog)); exact zV; exact zV; exact zS) | ((with_reducible first | apply wacall'); exact zV; exact zVs; exact zAs; (focus (first | exact ⟨_, Try.func15, rfl, rfl⟩)); (focus (with_unfolding_all first | exact hl15)); decide) | ((with_reducible first | apply w_iff'); exact zV; exact zU) | ((with_reducible first | apply fm_nil | apply fm_cons)) | ((with_reducible apply m_next); exact zU) | ((with_reducible apply m_nil0); exact zU) | ((with_reducible first | apply m_v (tok Try.prog)); exact zU; exact zZ; decide) | ((with_reducible first | apply m_xA (tok Try.prog)); exact zU; exact zI; decide) | ((with_reducible first | apply m_x (tok Try.prog)); exact zU; (focus (decide +kernel)); exact zZ; decide) | ((with_reducible first | apply m_chg0); exact zU; (focus ((with_reducible apply c_store (tok Try.prog)); exact zV; exact zV; exact zS))) | ((with_reducible apply w_drawN (id := 21) [9] [([9], [0, 1, 2, 3, 4, 5, 6, 7, 8, 9])] mixed); (focus (decide +kernel))) | fail
        all_goals try clear tE
        refine ⟨i + 1, by omega, ⟨by omega, ?_, ?_, ?_⟩, rfl, ?_⟩
        · show 2 ≤ k0 + 1
          omega
        · show upd _ _ _ 0 = _
          rw [upd_ne _ _ (by omega), upd_ne _ _ (by omega)]; exact e0'
        · show upd _ _ _ 1 = _
          rw [upd_ne _ _ (by omega), upd_ne _ _ (by omega)]; exact e1'
        · (have tE := And.intro (@upd_upd AV) <| And.intro (@upd_upd (Option Blk)) <| And.intro hw <| Fs.cells.eq_1; simp only [fitsT, List.take_zero, List.length_nil, sp_cons, sp_nil, upd_b, Nat.reduceBEq, cond_true, cond_false, args0_zero, args0_succ, args0_nil, tE]; repeat' first | exact trivial | apply And.intro | exact Sub.refl _ | exact Sub.cap)
      · have hbad := hSi.bad hz
        have hne : (ei != 0) = true := by simpa using hz
        rw [hbad] at r0 r2
        have tE := And.intro (@upd_upd AV) <| And.intro (@upd_upd (Option Blk)) <| And.intro g1 <| And.intro g2 <| And.intro g0 <| And.intro Nat.mul_one <| And.intro Nat.add_zero <| And.intro E0 <| And.intro E1 <| And.intro r0 <| And.intro r1 <| And.intro r2 <| And.intro b0 <| And.intro b1 <| And.intro b2 <| And.intro hne <| And.intro hw <| And.intro Cf.cells.eq_1 <| And.intro Fs.cells.eq_1 <| And.intro ty3 <| And.intro ty4 <| And.intro ty5 <| And.intro ty23 <| And.intro ty24 <| And.intro ty26 <| And.intro ty29 <| And.intro ty34 <| And.intro ty35 <| And.intro ty37 <| And.intro ty75 <| And.intro ty76 <| Try.results7; repeat' first | ((with_reducible first | apply w_seq | apply w_region | apply wl_nil | apply wr_nil | apply wr_nilA | apply wr_nilE | apply go_normal | apply go_ret | apply go_exit | apply blk_normal | apply blk_ret | apply blk_here | apply w_block | apply w_skip | apply w_exit | apply w_label)) | ((with_reducible first | apply wz (tok Try.prog) | apply wr_z (tok Try.prog)); exact zZ; decide) | ((with_reducible first | apply w_ift'); exact zV; exact zU) | ((with_reducible first | apply w_iff'); exact zV; exact zU) | fail
        all_goals try clear tE
        refine ⟨i + 1, by omega, ⟨by omega, hk, hI⟩, rfl, ?_⟩
        (have tE := And.intro (@upd_upd AV) <| And.intro (@upd_upd (Option Blk)) <| And.intro hw <| Fs.cells.eq_1; simp only [fitsT, List.take_zero, List.length_nil, sp_cons, sp_nil, upd_b, Nat.reduceBEq, cond_true, cond_false, args0_zero, args0_succ, args0_nil, tE]; repeat' first | exact trivial | apply And.intro | exact Sub.refl _ | exact Sub.cap)
    · have g1 : ((i : Int) < 6) = False := by simp; omega
      have E0' : H 0 = some (.cells [.view (frRows F0.l), .int .i64 F0.h, .view (frRows F1.l), .int .i64 F1.h, .view (frRows F2.l), .int .i64 F2.h, .view (frRows F3.l), .int .i64 F3.h, .view (frRows F4.l), .int .i64 F4.h, .view (frRows F5.l), .int .i64 F5.h] 26) := by rw [E0, ← hL]; rfl
      have E1' : H 1 = some (.cells [.int .i64 e0, .int .i64 e1, .int .i64 e2, .int .i64 e3, .int .i64 e4, .int .i64 e5] 29) := by rw [E1, ← he]; rfl
      by_cases hz : e0 = 0
      · obtain ⟨o1, o2, o3⟩ := hfind hz
        have hs := okF_small o1
        have hat : ((at_.toNat : Nat) : Int) = at_ := by omega
        have h33 := pf33_ok c F0 page hs.1 (fun x hx => (hs.2 x hx).2) o1 at_.toNat (by rw [o2, hat])
        rw [hat] at h33
        subst hz
        have haa : (at_ == at_) = true := by simp
        have tE := And.intro (@upd_upd AV) <| And.intro (@upd_upd (Option Blk)) <| And.intro g1 <| And.intro E0' <| And.intro E1' <| And.intro haa <| And.intro Cf.cells.eq_1 <| And.intro Fs.cells.eq_1 <| And.intro ty3 <| And.intro ty4 <| And.intro ty5 <| And.intro ty23 <| And.intro ty24 <| And.intro ty26 <| And.intro ty29 <| And.intro ty34 <| And.intro ty35 <| And.intro ty37 <| And.intro ty75 <| And.intro ty76 <| Try.results7; repeat' first | ((with_reducible first | apply w_seq | apply w_region | apply wl_nil | apply wr_nil | apply wr_nilA | apply wr_nilE | apply go_normal | apply go_ret | apply go_exit | apply blk_normal | apply blk_ret | apply blk_here | apply w_block | apply w_skip | apply w_exit | apply w_label)) | ((with_reducible apply w_live (lvAt [[0, 1, 2, 3, 4, 5], [2, 3, 4, 5, 6, 7], [2, 3, 4, 5, 6, 7, 13], [13], [2, 3, 4, 5, 6, 7, 13], [2, 3, 4, 5, 6, 7, 13, 14], [2, 3, 4, 5, 6, 7, 13, 14, 15], [2, 3, 4, 5, 6, 7, 13, 14, 15], [2, 3, 4, 5, 6, 7, 13, 14, 15], [2, 3, 4, 5, 6, 7, 13, 14, 15], [2, 3, 5, 6, 7, 13, 14, 15], [2, 3, 6, 7, 13, 14, 15], [2, 3, 6, 7, 13, 14, 15], [2, 3, 6, 7, 13, 14, 15, 16], [2, 3, 6, 7, 13, 14, 15, 16], [2, 3, 6, 7, 13, 14, 15, 16], [2, 3, 6, 7, 13, 14, 15, 16], [], [2, 3, 6, 7, 13, 14, 15, 16], [], [2, 3, 6, 7, 13, 14, 15, 16], [2, 3, 6, 7, 13, 14, 15, 16, 17], [2, 3, 6, 7, 13, 14, 15, 16, 17], [], [2, 3, 6, 13, 14, 15], [2, 13, 15, 18, 19]])); (focus (simp only [lvAt_zero, lvAt_succ]; rfl)); exact zLv) | ((with_reducible first | apply wz (tok Try.prog) | apply wr_z (tok Try.prog)); exact zZ; decide) | ((with_reducible first | apply wzg (tok Try.prog) | apply wr_zg (tok Try.prog)); exact zU; exact zL; exact zU; exact zZ; decide) | ((with_reducible first | apply wcall' | apply wr_call); exact zV; exact zVs; exact zAs; (focus (with_unfolding_all first | exact h33)); decide) | ((with_reducible first | apply w_iff'); exact zV; exact zU) | ((with_reducible first | apply w_draw0 mixed); (focus (decide +kernel))) | ((with_reducible apply w_ret); (repeat (with_reducible first | apply go_ret | apply blk_ret)); (with_reducible apply done_ret (tok Try.prog)); exact zT; exact zD; exact zX) | fail
        all_goals try clear tE
        rfl
      · have hb := s0.bad hz
        have h33 := pf33_bad c F0 page (by rw [hb]; simp) (by rw [hb]; simp) (okF_nil hb)
        have hne : (e0 != 0) = true := by simpa using hz
        have tE := And.intro (@upd_upd AV) <| And.intro (@upd_upd (Option Blk)) <| And.intro g1 <| And.intro E0' <| And.intro E1' <| And.intro hne <| And.intro Cf.cells.eq_1 <| And.intro Fs.cells.eq_1 <| And.intro ty3 <| And.intro ty4 <| And.intro ty5 <| And.intro ty23 <| And.intro ty24 <| And.intro ty26 <| And.intro ty29 <| And.intro ty34 <| And.intro ty35 <| And.intro ty37 <| And.intro ty75 <| And.intro ty76 <| Try.results7; repeat' first | ((with_reducible first | apply w_seq | apply w_region | apply wl_nil | apply wr_nil | apply wr_nilA | apply wr_nilE | apply go_normal | apply go_ret | apply go_exit | apply blk_normal | apply blk_ret | apply blk_here | apply w_block | apply w_skip | apply w_exit | apply w_label)) | ((with_reducible apply w_live (lvAt [[0, 1, 2, 3, 4, 5], [2, 3, 4, 5, 6, 7], [2, 3, 4, 5, 6, 7, 13], [13], [2, 3, 4, 5, 6, 7, 13], [2, 3, 4, 5, 6, 7, 13, 14], [2, 3, 4, 5, 6, 7, 13, 14, 15], [2, 3, 4, 5, 6, 7, 13, 14, 15], [2, 3, 4, 5, 6, 7, 13, 14, 15], [2, 3, 4, 5, 6, 7, 13, 14, 15], [2, 3, 5, 6, 7, 13, 14, 15], [2, 3, 6, 7, 13, 14, 15], [2, 3, 6, 7, 13, 14, 15], [2, 3, 6, 7, 13, 14, 15, 16], [2, 3, 6, 7, 13, 14, 15, 16], [2, 3, 6, 7, 13, 14, 15, 16], [2, 3, 6, 7, 13, 14, 15, 16], [], [2, 3, 6, 7, 13, 14, 15, 16], [], [2, 3, 6, 7, 13, 14, 15, 16], [2, 3, 6, 7, 13, 14, 15, 16, 17], [2, 3, 6, 7, 13, 14, 15, 16, 17], [], [2, 3, 6, 13, 14, 15], [2, 13, 15, 18, 19]])); (focus (simp only [lvAt_zero, lvAt_succ]; rfl)); exact zLv) | ((with_reducible first | apply wz (tok Try.prog) | apply wr_z (tok Try.prog)); exact zZ; decide) | ((with_reducible first | apply wzg (tok Try.prog) | apply wr_zg (tok Try.prog)); exact zU; exact zL; exact zU; exact zZ; decide) | ((with_reducible first | apply wskip' | apply wr_skip); exact zU; exact zL; exact zU; decide) | ((with_reducible first | apply wcall' | apply wr_call); exact zV; exact zVs; exact zAs; (focus (with_unfolding_all first | exact h33)); decide) | ((with_reducible first | apply w_iff'); exact zV; exact zU) | ((with_reducible first | apply w_draw0 mixed); (focus (decide +kernel))) | ((with_reducible apply w_ret); (repeat (with_reducible first | apply go_ret | apply blk_ret)); (with_reducible apply done_ret (tok Try.prog)); exact zT; exact zD; exact zX) | fail
        all_goals try clear tE
        rfl
theorem pf7 (c : Cf) (f : Fs) (at_ page cl : Int) (data : List UInt8) : PF Try.prog 7 [.agg c.cells, .agg f.cells, .int .i64 at_, .int .i64 page, .int .i64 cl, .view (byteRows data)] (fun r => r = .bool true) := by
  cases hg : greatF f.l with
  | true => exact pf7_great c f at_ page cl data (.inl hg)
  | false =>
    by_cases hd : data.length ≤ 100
    · exact pf7_main c f at_ page cl data hg hd
    · exact pf7_great c f at_ page cl data (.inr (by omega))
end Go.Proofs.Ytlmighkbeacjnaa
