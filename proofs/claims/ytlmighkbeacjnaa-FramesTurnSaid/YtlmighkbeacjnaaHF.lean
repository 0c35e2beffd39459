/- The reference's functions that turn a frame. -/
import Derived.Test.YtlmighkbeacjnaaHE
open Go Go.Lg
set_option linter.unusedSimpArgs false
set_option linter.unusedVariables false
set_option maxHeartbeats 4000000
set_option maxRecDepth 20000
namespace Go.Proofs.Ytlmighkbeacjnaa
theorem tz (H : Heap) (e : Int) : Fz H (tup [.agg [.empty, .int .i64 0], .int .i64 e]) (.tuple [.agg (Fs.cells ⟨[], 0⟩), .int .i64 e]) := FzL.tuple (.cons (FzL.agg (.cons .nothing (.cons (.pur (.int _ _)) .nil))) (.cons (.pur (.int _ _)) .nil))
theorem turn_bad {c : Cf} {f : Fs} {a : Int} {E : Fr → Int} (V : Fr → Fr) (h : okF c f = false) : turnE c f a E = 8 ∧ turnF c f a E V = ⟨[], 0⟩ := by
  have : turnE c f a E = 8 := by simp [turnE, h]
  exact ⟨this, by rw [turnF, this]; rfl⟩
theorem turn_out {c : Cf} {f : Fs} {a : Int} {E : Fr → Int} (V : Fr → Fr) (h : okF c f = true) (ha : a < 0 ∨ a ≥ f.l.length) : turnE c f a E = 2 ∧ turnF c f a E V = ⟨[], 0⟩ := by
  have : turnE c f a E = 2 := by rw [turnE, if_pos h, if_pos ha]
  exact ⟨this, by rw [turnF, this]; rfl⟩
theorem turn_no {c : Cf} {f : Fs} {a : Nat} {u : Fr} {E : Fr → Int} (V : Fr → Fr) (h : okF c f = true) (hu : f.l[a]? = some u) {e : Int} (hE : E u = e) (he : e ≠ 0) : turnE c f a E = e ∧ turnF c f a E V = ⟨[], 0⟩ := by
  have hl := (List.getElem?_eq_some_iff.1 hu).1
  have : turnE c f a E = e := by rw [turnE, if_pos h, if_neg (by omega), Int.toNat_natCast, hu]; exact hE
  exact ⟨this, by rw [turnF, this, if_neg he]⟩
theorem turn_yes {c : Cf} {f : Fs} {a : Nat} {u : Fr} {E : Fr → Int} (V : Fr → Fr) (h : okF c f = true) (hu : f.l[a]? = some u) (hE : E u = 0) : turnE c f a E = 0 ∧ turnF c f a E V = ⟨f.l.set a (V u), f.h⟩ := by
  have hl := (List.getElem?_eq_some_iff.1 hu).1
  have : turnE c f a E = E u := by rw [turnE, if_pos h, if_neg (by omega), Int.toNat_natCast, hu]
  exact ⟨this.trans hE, by rw [turnF, this, if_pos hE, Int.toNat_natCast, hu]⟩
theorem ok_cl {c : Cf} {f : Fs} (h : okF c f = true) : 1 ≤ c.cl ∧ c.cl ≤ 4 ∧ (c.cl : Int) = ((c.cl.toNat : Nat) : Int) ∧ ∀ x, x ∈ f.l → (x.pins.length : Int) = c.cl ∧ ∀ n, n ∈ x.pins → 0 ≤ n ∧ n ≤ 8 := by
  obtain ⟨k1, k2, k3, k4, k5⟩ := okF_parts h
  obtain ⟨n, fr, hn, hfr, hn1, hf1⟩ := good_nums k1
  refine ⟨by omega, by omega, by omega, fun x hx => ?_⟩
  have hm := (okL_iff.1 k5).1 x hx
  unfold mayF at hm
  simp only [Bool.and_eq_true, decide_eq_true_eq] at hm
  refine ⟨hm.1.1, fun n hn => ?_⟩
  have hw := hm.1.2
  simp only [wildP, Bool.not_eq_true', List.any_eq_false, decide_eq_true_eq] at hw
  have := hw n hn
  omega
theorem pf24 (c : Cf) (f : Fs) (a_ : Int) (data : List UInt8) (hdl : data.length ≤ 1000000) (hl : f.l.length ≤ 1000000) (hd : ∀ x, x ∈ f.l → x.d.length ≤ 1000000 ∧ x.pins.length ≤ 1000000) : PF Try.prog 24 [.agg c.cells, .agg f.cells, .int .i64 a_, .view (byteRows data)] (fun r => r = .tuple [.agg (turnF c f a_ (fillE c data) (fillV data)).cells, .int .i64 (turnE c f a_ (fillE c data))]) := by
  have h65 := pf65 c f a_ 0 hl (fun x hx => (hd x hx).2)
  refine pf_of_wf0 Try.func24 (c := _) rfl rfl (Nat.le_of_ble_eq_true rfl) (args_4 (cf_pur c) (fsa_pur f) (.int _ _) (byteRows_pur data)) ?_
  rw [show Try.f24.ntmps = 43 from rfl]
  cases hok : okF c f with
  | false =>
    simp only [hok, Bool.false_eq_true, if_false] at h65
    obtain ⟨t1, t2⟩ := turn_bad (a := a_) (E := (fillE c data)) (fillV data) hok
    rw [t1, t2]
    have tE := And.intro (@upd_upd AV) <| And.intro (@upd_upd (Option Blk)) <| And.intro Cf.cells.eq_1 <| And.intro Fs.cells.eq_1 <| And.intro frRows_len <| And.intro ty3 <| And.intro ty4 <| And.intro ty5 <| And.intro ty23 <| And.intro ty24 <| And.intro ty26 <| And.intro ty34 <| And.intro ty35 <| And.intro ty37 <| Try.results24; repeat' first | ((with_reducible first | apply w_seq | apply w_region | apply wl_nil | apply wr_nil | apply wr_nilA | apply wr_nilE | apply go_normal | apply go_ret | apply go_exit | apply blk_normal | apply blk_ret | apply blk_here | apply w_block | apply w_skip | apply w_exit | apply w_label)) | ((with_reducible first | apply wz (tok Try.prog) | apply wr_z (tok Try.prog)); exact zZ; decide) | ((with_reducible first | apply w_alloc (tok Try.prog)); exact zT; decide) | ((with_reducible first | apply w_store (tok Try.prog)); exact zV; exact zV; exact zS) | ((with_reducible first | apply wcall' | apply wr_call); exact zV; exact zVs; exact zAs; (focus (with_unfolding_all first | exact h65)); decide) | ((with_reducible first | apply w_ift'); exact zV; exact zU) | ((with_reducible apply w_ret); (repeat (with_reducible first | apply go_ret | apply blk_ret)); (with_reducible first | apply donef_ret (tok Try.prog) | apply doneA_ret (tok Try.prog)); exact zT; exact zD) | fail
    all_goals try clear tE
    · exact tz _ _
    · exact tup_pur (fsa_pur ⟨[], 0⟩) (.int _ _)
    · rfl
  | true =>
    simp only [hok, if_true] at h65
    obtain ⟨cl1, cl2, cl3, hpn⟩ := ok_cl hok
    by_cases hr : a_ < 0 ∨ a_ ≥ f.l.length
    · rw [if_pos (by omega)] at h65
      obtain ⟨t1, t2⟩ := turn_out (E := (fillE c data)) (fillV data) hok hr
      rw [t1, t2]
      have tE := And.intro (@upd_upd AV) <| And.intro (@upd_upd (Option Blk)) <| And.intro Cf.cells.eq_1 <| And.intro Fs.cells.eq_1 <| And.intro frRows_len <| And.intro ty3 <| And.intro ty4 <| And.intro ty5 <| And.intro ty23 <| And.intro ty24 <| And.intro ty26 <| And.intro ty34 <| And.intro ty35 <| And.intro ty37 <| Try.results24; repeat' first | ((with_reducible first | apply w_seq | apply w_region | apply wl_nil | apply wr_nil | apply wr_nilA | apply wr_nilE | apply go_normal | apply go_ret | apply go_exit | apply blk_normal | apply blk_ret | apply blk_here | apply w_block | apply w_skip | apply w_exit | apply w_label)) | ((with_reducible first | apply wz (tok Try.prog) | apply wr_z (tok Try.prog)); exact zZ; decide) | ((with_reducible first | apply w_alloc (tok Try.prog)); exact zT; decide) | ((with_reducible first | apply w_store (tok Try.prog)); exact zV; exact zV; exact zS) | ((with_reducible first | apply wcall' | apply wr_call); exact zV; exact zVs; exact zAs; (focus (with_unfolding_all first | exact h65)); decide) | ((with_reducible first | apply w_ift'); exact zV; exact zU) | ((with_reducible apply w_ret); (repeat (with_reducible first | apply go_ret | apply blk_ret)); (with_reducible first | apply donef_ret (tok Try.prog) | apply doneA_ret (tok Try.prog)); exact zT; exact zD) | fail
      all_goals try clear tE
      · exact tz _ _
      · exact tup_pur (fsa_pur ⟨[], 0⟩) (.int _ _)
      · rfl
    rw [if_neg (by omega)] at h65
    obtain ⟨a, rfl⟩ : ∃ a : Nat, a_ = a := ⟨a_.toNat, by omega⟩
    have ha : a < f.l.length := by omega
    obtain ⟨u, hu⟩ : ∃ u, f.l[a]? = some u := ⟨_, List.getElem?_eq_getElem ha⟩
    have hrow := fr_row hu
    have hdu := hd u (List.mem_of_getElem? hu)
    have c0 : (0 ≤ (a : Int)) = True := by simp
    have c1 : ((a : Int) < (f.l.length : Int)) = True := by simp; omega
    by_cases hk : u.k = 1
    · have k1 : (u.k != 1) = false := by simp [hk]
      by_cases hz : (data.length : Int) = c.z
      · have k2 : ((data.length : Int) != c.z) = false := by simp [hz]
        have h60 := pf60 f a (fillV data u) ha hl hd hdl hdu.2
        simp only [fillV] at h60
        obtain ⟨t1, t2⟩ := turn_yes (E := (fillE c data)) (fillV data) hok hu (by simp [fillE, hk, hz])
        rw [t1, t2]
        have tE := And.intro (@upd_upd AV) <| And.intro (@upd_upd (Option Blk)) <| And.intro Cf.cells.eq_1 <| And.intro Fs.cells.eq_1 <| And.intro frRows_len <| And.intro Fr.cells.eq_1 <| And.intro hrow <| And.intro c0 <| And.intro c1 <| And.intro k1 <| And.intro k2 <| And.intro byteRows_len <| And.intro ty3 <| And.intro ty4 <| And.intro ty5 <| And.intro ty23 <| And.intro ty24 <| And.intro ty26 <| And.intro ty34 <| And.intro ty35 <| And.intro ty37 <| Try.results24; repeat' first | ((with_reducible first | apply w_seq | apply w_region | apply wl_nil | apply wr_nil | apply wr_nilA | apply wr_nilE | apply go_normal | apply go_ret | apply go_exit | apply blk_normal | apply blk_ret | apply blk_here | apply w_block | apply w_skip | apply w_exit | apply w_label)) | ((with_reducible first | apply wz (tok Try.prog) | apply wr_z (tok Try.prog)); exact zZ; decide) | ((with_reducible first | apply wzg (tok Try.prog) | apply wr_zg (tok Try.prog)); exact zU; exact zL; exact zU; exact zZ; decide) | ((with_reducible first | apply w_alloc (tok Try.prog)); exact zT; decide) | ((with_reducible first | apply w_store (tok Try.prog)); exact zV; exact zV; exact zS) | ((with_reducible first | apply wcall' | apply wr_call); exact zV; exact zVs; exact zAs; (focus (with_unfolding_all first | exact h65 | exact h60)); decide) | ((with_reducible first | apply w_iff'); exact zV; exact zU) | ((with_reducible apply w_ret); (repeat (with_reducible first | apply go_ret | apply blk_ret)); (with_reducible first | apply donef_ret (tok Try.prog) | apply doneA_ret (tok Try.prog)); exact zT; exact zD) | fail
        all_goals try clear tE
        · exact .pur (tup_pur (fsa_pur ⟨f.l.set a (fillV data u), f.h⟩) (.int _ _))
        · exact tup_pur (fsa_pur ⟨f.l.set a (fillV data u), f.h⟩) (.int _ _)
        · rfl
      · have k2 : ((data.length : Int) != c.z) = true := by simp [hz]
        have hEu : fillE c data u = 2 := by simp [fillE, hz]
        obtain ⟨t1, t2⟩ := turn_no (E := (fillE c data)) (fillV data) hok hu hEu (by decide)
        rw [t1, t2]
        have tE := And.intro (@upd_upd AV) <| And.intro (@upd_upd (Option Blk)) <| And.intro Cf.cells.eq_1 <| And.intro Fs.cells.eq_1 <| And.intro frRows_len <| And.intro hrow <| And.intro c0 <| And.intro c1 <| And.intro k1 <| And.intro k2 <| And.intro byteRows_len <| And.intro hEu <| And.intro ty3 <| And.intro ty4 <| And.intro ty5 <| And.intro ty23 <| And.intro ty24 <| And.intro ty26 <| And.intro ty34 <| And.intro ty35 <| And.intro ty37 <| Try.results24; repeat' first | ((with_reducible first | apply w_seq | apply w_region | apply wl_nil | apply wr_nil | apply wr_nilA | apply wr_nilE | apply go_normal | apply go_ret | apply go_exit | apply blk_normal | apply blk_ret | apply blk_here | apply w_block | apply w_skip | apply w_exit | apply w_label)) | ((with_reducible first | apply wz (tok Try.prog) | apply wr_z (tok Try.prog)); exact zZ; decide) | ((with_reducible first | apply wzg (tok Try.prog) | apply wr_zg (tok Try.prog)); exact zU; exact zL; exact zU; exact zZ; decide) | ((with_reducible first | apply w_alloc (tok Try.prog)); exact zT; decide) | ((with_reducible first | apply w_store (tok Try.prog)); exact zV; exact zV; exact zS) | ((with_reducible first | apply wcall' | apply wr_call); exact zV; exact zVs; exact zAs; (focus (with_unfolding_all first | exact h65)); decide) | ((with_reducible first | apply w_ift'); exact zV; exact zU) | ((with_reducible first | apply w_iff'); exact zV; exact zU) | ((with_reducible apply w_ret); (repeat (with_reducible first | apply go_ret | apply blk_ret)); (with_reducible first | apply donef_ret (tok Try.prog) | apply doneA_ret (tok Try.prog)); exact zT; exact zD) | fail
        all_goals try clear tE
        · exact tz _ _
        · exact tup_pur (fsa_pur ⟨[], 0⟩) (.int _ _)
        · rfl
    · have k1 : (u.k != 1) = true := by simp [hk]
      have hEu : fillE c data u = 2 := by simp [fillE, hk]
      obtain ⟨t1, t2⟩ := turn_no (E := (fillE c data)) (fillV data) hok hu hEu (by decide)
      rw [t1, t2]
      have tE := And.intro (@upd_upd AV) <| And.intro (@upd_upd (Option Blk)) <| And.intro Cf.cells.eq_1 <| And.intro Fs.cells.eq_1 <| And.intro frRows_len <| And.intro hrow <| And.intro c0 <| And.intro c1 <| And.intro k1 <| And.intro byteRows_len <| And.intro hEu <| And.intro ty3 <| And.intro ty4 <| And.intro ty5 <| And.intro ty23 <| And.intro ty24 <| And.intro ty26 <| And.intro ty34 <| And.intro ty35 <| And.intro ty37 <| Try.results24; repeat' first | ((with_reducible first | apply w_seq | apply w_region | apply wl_nil | apply wr_nil | apply wr_nilA | apply wr_nilE | apply go_normal | apply go_ret | apply go_exit | apply blk_normal | apply blk_ret | apply blk_here | apply w_block | apply w_skip | apply w_exit | apply w_label)) | ((with_reducible first | apply wz (tok Try.prog) | apply wr_z (tok Try.prog)); exact zZ; decide) | ((with_reducible first | apply wskip' | apply wr_skip); exact zU; exact zL; exact zU; decide) | ((with_reducible first | apply w_alloc (tok Try.prog)); exact zT; decide) | ((with_reducible first | apply w_store (tok Try.prog)); exact zV; exact zV; exact zS) | ((with_reducible first | apply wcall' | apply wr_call); exact zV; exact zVs; exact zAs; (focus (with_unfolding_all first | exact h65)); decide) | ((with_reducible first | apply w_ift'); exact zV; exact zU) | ((with_reducible first | apply w_iff'); exact zV; exact zU) | ((with_reducible apply w_ret); (repeat (with_reducible first | apply go_ret | apply blk_ret)); (with_reducible first | apply donef_ret (tok Try.prog) | apply doneA_ret (tok Try.prog)); exact zT; exact zD) | fail
      all_goals try clear tE
      · exact tz _ _
      · exact tup_pur (fsa_pur ⟨[], 0⟩) (.int _ _)
      · rfl
theorem pf26 (c : Cf) (f : Fs) (a_ : Int) (data : List UInt8) (hdl : data.length ≤ 1000000) (hl : f.l.length ≤ 1000000) (hd : ∀ x, x ∈ f.l → x.d.length ≤ 1000000 ∧ x.pins.length ≤ 1000000) : PF Try.prog 26 [.agg c.cells, .agg f.cells, .int .i64 a_, .view (byteRows data)] (fun r => r = .tuple [.agg (turnF c f a_ (writeE c data) (writeV data)).cells, .int .i64 (turnE c f a_ (writeE c data))]) := by
  have h65 := pf65 c f a_ 0 hl (fun x hx => (hd x hx).2)
  refine pf_of_wf0 Try.func26 (c := _) rfl rfl (Nat.le_of_ble_eq_true rfl) (args_4 (cf_pur c) (fsa_pur f) (.int _ _) (byteRows_pur data)) ?_
  rw [show Try.f26.ntmps = 44 from rfl]
  cases hok : okF c f with
  | false =>
    simp only [hok, Bool.false_eq_true, if_false] at h65
    obtain ⟨t1, t2⟩ := turn_bad (a := a_) (E := (writeE c data)) (writeV data) hok
    rw [t1, t2]
    have tE := And.intro (@upd_upd AV) <| And.intro (@upd_upd (Option Blk)) <| And.intro Cf.cells.eq_1 <| And.intro Fs.cells.eq_1 <| And.intro frRows_len <| And.intro ty3 <| And.intro ty4 <| And.intro ty5 <| And.intro ty23 <| And.intro ty24 <| And.intro ty26 <| And.intro ty34 <| And.intro ty35 <| And.intro ty37 <| Try.results26; repeat' first | ((with_reducible first | apply w_seq | apply w_region | apply wl_nil | apply wr_nil | apply wr_nilA | apply wr_nilE | apply go_normal | apply go_ret | apply go_exit | apply blk_normal | apply blk_ret | apply blk_here | apply w_block | apply w_skip | apply w_exit | apply w_label)) | ((with_reducible first | apply wz (tok Try.prog) | apply wr_z (tok Try.prog)); exact zZ; decide) | ((with_reducible first | apply w_alloc (tok Try.prog)); exact zT; decide) | ((with_reducible first | apply w_store (tok Try.prog)); exact zV; exact zV; exact zS) | ((with_reducible first | apply wcall' | apply wr_call); exact zV; exact zVs; exact zAs; (focus (with_unfolding_all first | exact h65)); decide) | ((with_reducible first | apply w_ift'); exact zV; exact zU) | ((with_reducible apply w_ret); (repeat (with_reducible first | apply go_ret | apply blk_ret)); (with_reducible first | apply donef_ret (tok Try.prog) | apply doneA_ret (tok Try.prog)); exact zT; exact zD) | fail
    all_goals try clear tE
    · exact tz _ _
    · exact tup_pur (fsa_pur ⟨[], 0⟩) (.int _ _)
    · rfl
  | true =>
    simp only [hok, if_true] at h65
    obtain ⟨cl1, cl2, cl3, hpn⟩ := ok_cl hok
    by_cases hr : a_ < 0 ∨ a_ ≥ f.l.length
    · rw [if_pos (by omega)] at h65
      obtain ⟨t1, t2⟩ := turn_out (E := (writeE c data)) (writeV data) hok hr
      rw [t1, t2]
      have tE := And.intro (@upd_upd AV) <| And.intro (@upd_upd (Option Blk)) <| And.intro Cf.cells.eq_1 <| And.intro Fs.cells.eq_1 <| And.intro frRows_len <| And.intro ty3 <| And.intro ty4 <| And.intro ty5 <| And.intro ty23 <| And.intro ty24 <| And.intro ty26 <| And.intro ty34 <| And.intro ty35 <| And.intro ty37 <| Try.results26; repeat' first | ((with_reducible first | apply w_seq | apply w_region | apply wl_nil | apply wr_nil | apply wr_nilA | apply wr_nilE | apply go_normal | apply go_ret | apply go_exit | apply blk_normal | apply blk_ret | apply blk_here | apply w_block | apply w_skip | apply w_exit | apply w_label)) | ((with_reducible first | apply wz (tok Try.prog) | apply wr_z (tok Try.prog)); exact zZ; decide) | ((with_reducible first | apply w_alloc (tok Try.prog)); exact zT; decide) | ((with_reducible first | apply w_store (tok Try.prog)); exact zV; exact zV; exact zS) | ((with_reducible first | apply wcall' | apply wr_call); exact zV; exact zVs; exact zAs; (focus (with_unfolding_all first | exact h65)); decide) | ((with_reducible first | apply w_ift'); exact zV; exact zU) | ((with_reducible apply w_ret); (repeat (with_reducible first | apply go_ret | apply blk_ret)); (with_reducible first | apply donef_ret (tok Try.prog) | apply doneA_ret (tok Try.prog)); exact zT; exact zD) | fail
      all_goals try clear tE
      · exact tz _ _
      · exact tup_pur (fsa_pur ⟨[], 0⟩) (.int _ _)
      · rfl
    rw [if_neg (by omega)] at h65
    obtain ⟨a, rfl⟩ : ∃ a : Nat, a_ = a := ⟨a_.toNat, by omega⟩
    have ha : a < f.l.length := by omega
    obtain ⟨u, hu⟩ : ∃ u, f.l[a]? = some u := ⟨_, List.getElem?_eq_getElem ha⟩
    have hrow := fr_row hu
    have hdu := hd u (List.mem_of_getElem? hu)
    have c0 : (0 ≤ (a : Int)) = True := by simp
    have c1 : ((a : Int) < (f.l.length : Int)) = True := by simp; omega
    by_cases hk : u.k = 2
    · have k1 : (u.k != 2) = false := by simp [hk]
      by_cases hz : (data.length : Int) = c.z
      · have k2 : ((data.length : Int) != c.z) = false := by simp [hz]
        have h60 := pf60 f a (writeV data u) ha hl hd hdl hdu.2
        simp only [writeV] at h60
        obtain ⟨t1, t2⟩ := turn_yes (E := (writeE c data)) (writeV data) hok hu (by simp [writeE, hk, hz])
        rw [t1, t2]
        have tE := And.intro (@upd_upd AV) <| And.intro (@upd_upd (Option Blk)) <| And.intro Cf.cells.eq_1 <| And.intro Fs.cells.eq_1 <| And.intro frRows_len <| And.intro Fr.cells.eq_1 <| And.intro hrow <| And.intro c0 <| And.intro c1 <| And.intro k1 <| And.intro k2 <| And.intro byteRows_len <| And.intro ty3 <| And.intro ty4 <| And.intro ty5 <| And.intro ty23 <| And.intro ty24 <| And.intro ty26 <| And.intro ty34 <| And.intro ty35 <| And.intro ty37 <| Try.results26; repeat' first | ((with_reducible first | apply w_seq | apply w_region | apply wl_nil | apply wr_nil | apply wr_nilA | apply wr_nilE | apply go_normal | apply go_ret | apply go_exit | apply blk_normal | apply blk_ret | apply blk_here | apply w_block | apply w_skip | apply w_exit | apply w_label)) | ((with_reducible first | apply wz (tok Try.prog) | apply wr_z (tok Try.prog)); exact zZ; decide) | ((with_reducible first | apply wzg (tok Try.prog) | apply wr_zg (tok Try.prog)); exact zU; exact zL; exact zU; exact zZ; decide) | ((with_reducible first | apply w_alloc (tok Try.prog)); exact zT; decide) | ((with_reducible first | apply w_store (tok Try.prog)); exact zV; exact zV; exact zS) | ((with_reducible first | apply wcall' | apply wr_call); exact zV; exact zVs; exact zAs; (focus (with_unfolding_all first | exact h65 | exact h60)); decide) | ((with_reducible first | apply w_iff'); exact zV; exact zU) | ((with_reducible apply w_ret); (repeat (with_reducible first | apply go_ret | apply blk_ret)); (with_reducible first | apply donef_ret (tok Try.prog) | apply doneA_ret (tok Try.prog)); exact zT; exact zD) | fail
        all_goals try clear tE
        · exact .pur (tup_pur (fsa_pur ⟨f.l.set a (writeV data u), f.h⟩) (.int _ _))
        · exact tup_pur (fsa_pur ⟨f.l.set a (writeV data u), f.h⟩) (.int _ _)
        · rfl
      · have k2 : ((data.length : Int) != c.z) = true := by simp [hz]
        have hEu : writeE c data u = 2 := by simp [writeE, hz]
        obtain ⟨t1, t2⟩ := turn_no (E := (writeE c data)) (writeV data) hok hu hEu (by decide)
        rw [t1, t2]
        have tE := And.intro (@upd_upd AV) <| And.intro (@upd_upd (Option Blk)) <| And.intro Cf.cells.eq_1 <| And.intro Fs.cells.eq_1 <| And.intro frRows_len <| And.intro hrow <| And.intro c0 <| And.intro c1 <| And.intro k1 <| And.intro k2 <| And.intro byteRows_len <| And.intro hEu <| And.intro ty3 <| And.intro ty4 <| And.intro ty5 <| And.intro ty23 <| And.intro ty24 <| And.intro ty26 <| And.intro ty34 <| And.intro ty35 <| And.intro ty37 <| Try.results26; repeat' first | ((with_reducible first | apply w_seq | apply w_region | apply wl_nil | apply wr_nil | apply wr_nilA | apply wr_nilE | apply go_normal | apply go_ret | apply go_exit | apply blk_normal | apply blk_ret | apply blk_here | apply w_block | apply w_skip | apply w_exit | apply w_label)) | ((with_reducible first | apply wz (tok Try.prog) | apply wr_z (tok Try.prog)); exact zZ; decide) | ((with_reducible first | apply wzg (tok Try.prog) | apply wr_zg (tok Try.prog)); exact zU; exact zL; exact zU; exact zZ; decide) | ((with_reducible first | apply w_alloc (tok Try.prog)); exact zT; decide) | ((with_reducible first | apply w_store (tok Try.prog)); exact zV; exact zV; exact zS) | ((with_reducible first | apply wcall' | apply wr_call); exact zV; exact zVs; exact zAs; (focus (with_unfolding_all first | exact h65)); decide) | ((with_reducible first | apply w_ift'); exact zV; exact zU) | ((with_reducible first | apply w_iff'); exact zV; exact zU) | ((with_reducible apply w_ret); (repeat (with_reducible first | apply go_ret | apply blk_ret)); (with_reducible first | apply donef_ret (tok Try.prog) | apply doneA_ret (tok Try.prog)); exact zT; exact zD) | fail
        all_goals try clear tE
        · exact tz _ _
        · exact tup_pur (fsa_pur ⟨[], 0⟩) (.int _ _)
        · rfl
    · have k1 : (u.k != 2) = true := by simp [hk]
      have hEu : writeE c data u = 2 := by simp [writeE, hk]
      obtain ⟨t1, t2⟩ := turn_no (E := (writeE c data)) (writeV data) hok hu hEu (by decide)
      rw [t1, t2]
      have tE := And.intro (@upd_upd AV) <| And.intro (@upd_upd (Option Blk)) <| And.intro Cf.cells.eq_1 <| And.intro Fs.cells.eq_1 <| And.intro frRows_len <| And.intro hrow <| And.intro c0 <| And.intro c1 <| And.intro k1 <| And.intro byteRows_len <| And.intro hEu <| And.intro ty3 <| And.intro ty4 <| And.intro ty5 <| And.intro ty23 <| And.intro ty24 <| And.intro ty26 <| And.intro ty34 <| And.intro ty35 <| And.intro ty37 <| Try.results26; repeat' first | ((with_reducible first | apply w_seq | apply w_region | apply wl_nil | apply wr_nil | apply wr_nilA | apply wr_nilE | apply go_normal | apply go_ret | apply go_exit | apply blk_normal | apply blk_ret | apply blk_here | apply w_block | apply w_skip | apply w_exit | apply w_label)) | ((with_reducible first | apply wz (tok Try.prog) | apply wr_z (tok Try.prog)); exact zZ; decide) | ((with_reducible first | apply wskip' | apply wr_skip); exact zU; exact zL; exact zU; decide) | ((with_reducible first | apply w_alloc (tok Try.prog)); exact zT; decide) | ((with_reducible first | apply w_store (tok Try.prog)); exact zV; exact zV; exact zS) | ((with_reducible first | apply wcall' | apply wr_call); exact zV; exact zVs; exact zAs; (focus (with_unfolding_all first | exact h65)); decide) | ((with_reducible first | apply w_ift'); exact zV; exact zU) | ((with_reducible first | apply w_iff'); exact zV; exact zU) | ((with_reducible apply w_ret); (repeat (with_reducible first | apply go_ret | apply blk_ret)); (with_reducible first | apply donef_ret (tok Try.prog) | apply doneA_ret (tok Try.prog)); exact zT; exact zD) | fail
      all_goals try clear tE
      · exact tz _ _
      · exact tup_pur (fsa_pur ⟨[], 0⟩) (.int _ _)
      · rfl
theorem pf28 (c : Cf) (f : Fs) (a_ : Int) (hl : f.l.length ≤ 1000000) (hd : ∀ x, x ∈ f.l → x.d.length ≤ 1000000 ∧ x.pins.length ≤ 1000000) : PF Try.prog 28 [.agg c.cells, .agg f.cells, .int .i64 a_] (fun r => r = .tuple [.agg (turnF c f a_ cleanE cleanV).cells, .int .i64 (turnE c f a_ cleanE)]) := by
  have h65 := pf65 c f a_ 0 hl (fun x hx => (hd x hx).2)
  refine pf_of_wf0 Try.func28 (c := _) rfl rfl (Nat.le_of_ble_eq_true rfl) (args_3 (cf_pur c) (fsa_pur f) (.int _ _)) ?_
  rw [show Try.f28.ntmps = 32 from rfl]
  cases hok : okF c f with
  | false =>
    simp only [hok, Bool.false_eq_true, if_false] at h65
    obtain ⟨t1, t2⟩ := turn_bad (a := a_) (E := cleanE) cleanV hok
    rw [t1, t2]
    have tE := And.intro (@upd_upd AV) <| And.intro (@upd_upd (Option Blk)) <| And.intro Cf.cells.eq_1 <| And.intro Fs.cells.eq_1 <| And.intro frRows_len <| And.intro ty3 <| And.intro ty4 <| And.intro ty5 <| And.intro ty23 <| And.intro ty24 <| And.intro ty26 <| And.intro ty34 <| And.intro ty35 <| And.intro ty37 <| Try.results28; repeat' first | ((with_reducible first | apply w_seq | apply w_region | apply wl_nil | apply wr_nil | apply wr_nilA | apply wr_nilE | apply go_normal | apply go_ret | apply go_exit | apply blk_normal | apply blk_ret | apply blk_here | apply w_block | apply w_skip | apply w_exit | apply w_label)) | ((with_reducible first | apply wz (tok Try.prog) | apply wr_z (tok Try.prog)); exact zZ; decide) | ((with_reducible first | apply w_alloc (tok Try.prog)); exact zT; decide) | ((with_reducible first | apply w_store (tok Try.prog)); exact zV; exact zV; exact zS) | ((with_reducible first | apply wcall' | apply wr_call); exact zV; exact zVs; exact zAs; (focus (with_unfolding_all first | exact h65)); decide) | ((with_reducible first | apply w_ift'); exact zV; exact zU) | ((with_reducible apply w_ret); (repeat (with_reducible first | apply go_ret | apply blk_ret)); (with_reducible first | apply donef_ret (tok Try.prog) | apply doneA_ret (tok Try.prog)); exact zT; exact zD) | fail
    all_goals try clear tE
    · exact tz _ _
    · exact tup_pur (fsa_pur ⟨[], 0⟩) (.int _ _)
    · rfl
  | true =>
    simp only [hok, if_true] at h65
    obtain ⟨cl1, cl2, cl3, hpn⟩ := ok_cl hok
    by_cases hr : a_ < 0 ∨ a_ ≥ f.l.length
    · rw [if_pos (by omega)] at h65
      obtain ⟨t1, t2⟩ := turn_out (E := cleanE) cleanV hok hr
      rw [t1, t2]
      have tE := And.intro (@upd_upd AV) <| And.intro (@upd_upd (Option Blk)) <| And.intro Cf.cells.eq_1 <| And.intro Fs.cells.eq_1 <| And.intro frRows_len <| And.intro ty3 <| And.intro ty4 <| And.intro ty5 <| And.intro ty23 <| And.intro ty24 <| And.intro ty26 <| And.intro ty34 <| And.intro ty35 <| And.intro ty37 <| Try.results28; repeat' first | ((with_reducible first | apply w_seq | apply w_region | apply wl_nil | apply wr_nil | apply wr_nilA | apply wr_nilE | apply go_normal | apply go_ret | apply go_exit | apply blk_normal | apply blk_ret | apply blk_here | apply w_block | apply w_skip | apply w_exit | apply w_label)) | ((with_reducible first | apply wz (tok Try.prog) | apply wr_z (tok Try.prog)); exact zZ; decide) | ((with_reducible first | apply w_alloc (tok Try.prog)); exact zT; decide) | ((with_reducible first | apply w_store (tok Try.prog)); exact zV; exact zV; exact zS) | ((with_reducible first | apply wcall' | apply wr_call); exact zV; exact zVs; exact zAs; (focus (with_unfolding_all first | exact h65)); decide) | ((with_reducible first | apply w_ift'); exact zV; exact zU) | ((with_reducible apply w_ret); (repeat (with_reducible first | apply go_ret | apply blk_ret)); (with_reducible first | apply donef_ret (tok Try.prog) | apply doneA_ret (tok Try.prog)); exact zT; exact zD) | fail
      all_goals try clear tE
      · exact tz _ _
      · exact tup_pur (fsa_pur ⟨[], 0⟩) (.int _ _)
      · rfl
    rw [if_neg (by omega)] at h65
    obtain ⟨a, rfl⟩ : ∃ a : Nat, a_ = a := ⟨a_.toNat, by omega⟩
    have ha : a < f.l.length := by omega
    obtain ⟨u, hu⟩ : ∃ u, f.l[a]? = some u := ⟨_, List.getElem?_eq_getElem ha⟩
    have hrow := fr_row hu
    have hdu := hd u (List.mem_of_getElem? hu)
    have c0 : (0 ≤ (a : Int)) = True := by simp
    have c1 : ((a : Int) < (f.l.length : Int)) = True := by simp; omega
    cases hk : u.dt with
    | true =>
      have h60 := pf60 f a (cleanV u) ha hl hd hdu.1 hdu.2
      simp only [cleanV] at h60
      obtain ⟨t1, t2⟩ := turn_yes (E := cleanE) cleanV hok hu (by simp [cleanE, hk])
      rw [t1, t2]
      have tE := And.intro (@upd_upd AV) <| And.intro (@upd_upd (Option Blk)) <| And.intro Cf.cells.eq_1 <| And.intro Fs.cells.eq_1 <| And.intro frRows_len <| And.intro Fr.cells.eq_1 <| And.intro hrow <| And.intro c0 <| And.intro c1 <| And.intro hk <| And.intro ty3 <| And.intro ty4 <| And.intro ty5 <| And.intro ty23 <| And.intro ty24 <| And.intro ty26 <| And.intro ty34 <| And.intro ty35 <| And.intro ty37 <| Try.results28; repeat' first | ((with_reducible first | apply w_seq | apply w_region | apply wl_nil | apply wr_nil | apply wr_nilA | apply wr_nilE | apply go_normal | apply go_ret | apply go_exit | apply blk_normal | apply blk_ret | apply blk_here | apply w_block | apply w_skip | apply w_exit | apply w_label)) | ((with_reducible first | apply wz (tok Try.prog) | apply wr_z (tok Try.prog)); exact zZ; decide) | ((with_reducible first | apply w_alloc (tok Try.prog)); exact zT; decide) | ((with_reducible first | apply w_store (tok Try.prog)); exact zV; exact zV; exact zS) | ((with_reducible first | apply wcall' | apply wr_call); exact zV; exact zVs; exact zAs; (focus (with_unfolding_all first | exact h65 | exact h60)); decide) | ((with_reducible first | apply w_iff'); exact zV; exact zU) | ((with_reducible apply w_ret); (repeat (with_reducible first | apply go_ret | apply blk_ret)); (with_reducible first | apply donef_ret (tok Try.prog) | apply doneA_ret (tok Try.prog)); exact zT; exact zD) | fail
      all_goals try clear tE
      · exact .pur (tup_pur (fsa_pur ⟨f.l.set a (cleanV u), f.h⟩) (.int _ _))
      · exact tup_pur (fsa_pur ⟨f.l.set a (cleanV u), f.h⟩) (.int _ _)
      · rfl
    | false =>
      have hEu : cleanE u = 2 := by simp [cleanE, hk]
      obtain ⟨t1, t2⟩ := turn_no (E := cleanE) cleanV hok hu hEu (by decide)
      rw [t1, t2]
      have tE := And.intro (@upd_upd AV) <| And.intro (@upd_upd (Option Blk)) <| And.intro Cf.cells.eq_1 <| And.intro Fs.cells.eq_1 <| And.intro frRows_len <| And.intro hrow <| And.intro c0 <| And.intro c1 <| And.intro hk <| And.intro hEu <| And.intro ty3 <| And.intro ty4 <| And.intro ty5 <| And.intro ty23 <| And.intro ty24 <| And.intro ty26 <| And.intro ty34 <| And.intro ty35 <| And.intro ty37 <| Try.results28; repeat' first | ((with_reducible first | apply w_seq | apply w_region | apply wl_nil | apply wr_nil | apply wr_nilA | apply wr_nilE | apply go_normal | apply go_ret | apply go_exit | apply blk_normal | apply blk_ret | apply blk_here | apply w_block | apply w_skip | apply w_exit | apply w_label)) | ((with_reducible first | apply wz (tok Try.prog) | apply wr_z (tok Try.prog)); exact zZ; decide) | ((with_reducible first | apply w_alloc (tok Try.prog)); exact zT; decide) | ((with_reducible first | apply w_store (tok Try.prog)); exact zV; exact zV; exact zS) | ((with_reducible first | apply wcall' | apply wr_call); exact zV; exact zVs; exact zAs; (focus (with_unfolding_all first | exact h65)); decide) | ((with_reducible first | apply w_ift'); exact zV; exact zU) | ((with_reducible first | apply w_iff'); exact zV; exact zU) | ((with_reducible apply w_ret); (repeat (with_reducible first | apply go_ret | apply blk_ret)); (with_reducible first | apply donef_ret (tok Try.prog) | apply doneA_ret (tok Try.prog)); exact zT; exact zD) | fail
      all_goals try clear tE
      · exact tz _ _
      · exact tup_pur (fsa_pur ⟨[], 0⟩) (.int _ _)
      · rfl
theorem pf68 (c : Cf) (f : Fs) (a_ : Int) (cl : Int) (hl : f.l.length ≤ 1000000) (hd : ∀ x, x ∈ f.l → x.d.length ≤ 1000000 ∧ x.pins.length ≤ 1000000) : PF Try.prog 68 [.agg c.cells, .agg f.cells, .int .i64 a_, .int .i64 cl] (fun r => r = .tuple [.agg (turnF c f a_ (fun u => pinE c u cl) (fun u => pinV u cl)).cells, .int .i64 (turnE c f a_ (fun u => pinE c u cl))]) := by
  have h65 := pf65 c f a_ cl hl (fun x hx => (hd x hx).2)
  refine pf_of_wf0 Try.func68 (c := _) rfl rfl (Nat.le_of_ble_eq_true rfl) (args_4 (cf_pur c) (fsa_pur f) (.int _ _) (.int _ _)) ?_
  rw [show Try.f68.ntmps = 43 from rfl]
  cases hok : okF c f with
  | false =>
    simp only [hok, Bool.false_eq_true, if_false] at h65
    obtain ⟨t1, t2⟩ := turn_bad (a := a_) (E := (fun u => pinE c u cl)) (fun u => pinV u cl) hok
    rw [t1, t2]
    have tE := And.intro (@upd_upd AV) <| And.intro (@upd_upd (Option Blk)) <| And.intro Cf.cells.eq_1 <| And.intro Fs.cells.eq_1 <| And.intro frRows_len <| And.intro ty3 <| And.intro ty4 <| And.intro ty5 <| And.intro ty23 <| And.intro ty24 <| And.intro ty26 <| And.intro ty34 <| And.intro ty35 <| And.intro ty37 <| Try.results68; repeat' first | ((with_reducible first | apply w_seq | apply w_region | apply wl_nil | apply wr_nil | apply wr_nilA | apply wr_nilE | apply go_normal | apply go_ret | apply go_exit | apply blk_normal | apply blk_ret | apply blk_here | apply w_block | apply w_skip | apply w_exit | apply w_label)) | ((with_reducible first | apply wz (tok Try.prog) | apply wr_z (tok Try.prog)); exact zZ; decide) | ((with_reducible first | apply w_alloc (tok Try.prog)); exact zT; decide) | ((with_reducible first | apply w_store (tok Try.prog)); exact zV; exact zV; exact zS) | ((with_reducible first | apply wcall' | apply wr_call); exact zV; exact zVs; exact zAs; (focus (with_unfolding_all first | exact h65)); decide) | ((with_reducible first | apply w_ift'); exact zV; exact zU) | ((with_reducible apply w_ret); (repeat (with_reducible first | apply go_ret | apply blk_ret)); (with_reducible first | apply donef_ret (tok Try.prog) | apply doneA_ret (tok Try.prog)); exact zT; exact zD) | fail
    all_goals try clear tE
    · exact tz _ _
    · exact tup_pur (fsa_pur ⟨[], 0⟩) (.int _ _)
    · rfl
  | true =>
    simp only [hok, if_true] at h65
    obtain ⟨cl1, cl2, cl3, hpn⟩ := ok_cl hok
    by_cases hr : a_ < 0 ∨ a_ ≥ f.l.length
    · rw [if_pos (by omega)] at h65
      obtain ⟨t1, t2⟩ := turn_out (E := (fun u => pinE c u cl)) (fun u => pinV u cl) hok hr
      rw [t1, t2]
      have tE := And.intro (@upd_upd AV) <| And.intro (@upd_upd (Option Blk)) <| And.intro Cf.cells.eq_1 <| And.intro Fs.cells.eq_1 <| And.intro frRows_len <| And.intro ty3 <| And.intro ty4 <| And.intro ty5 <| And.intro ty23 <| And.intro ty24 <| And.intro ty26 <| And.intro ty34 <| And.intro ty35 <| And.intro ty37 <| Try.results68; repeat' first | ((with_reducible first | apply w_seq | apply w_region | apply wl_nil | apply wr_nil | apply wr_nilA | apply wr_nilE | apply go_normal | apply go_ret | apply go_exit | apply blk_normal | apply blk_ret | apply blk_here | apply w_block | apply w_skip | apply w_exit | apply w_label)) | ((with_reducible first | apply wz (tok Try.prog) | apply wr_z (tok Try.prog)); exact zZ; decide) | ((with_reducible first | apply w_alloc (tok Try.prog)); exact zT; decide) | ((with_reducible first | apply w_store (tok Try.prog)); exact zV; exact zV; exact zS) | ((with_reducible first | apply wcall' | apply wr_call); exact zV; exact zVs; exact zAs; (focus (with_unfolding_all first | exact h65)); decide) | ((with_reducible first | apply w_ift'); exact zV; exact zU) | ((with_reducible apply w_ret); (repeat (with_reducible first | apply go_ret | apply blk_ret)); (with_reducible first | apply donef_ret (tok Try.prog) | apply doneA_ret (tok Try.prog)); exact zT; exact zD) | fail
      all_goals try clear tE
      · exact tz _ _
      · exact tup_pur (fsa_pur ⟨[], 0⟩) (.int _ _)
      · rfl
    obtain ⟨a, rfl⟩ : ∃ a : Nat, a_ = a := ⟨a_.toNat, by omega⟩
    have ha : a < f.l.length := by omega
    obtain ⟨u, hu⟩ : ∃ u, f.l[a]? = some u := ⟨_, List.getElem?_eq_getElem ha⟩
    have hrow := fr_row hu
    have hdu := hd u (List.mem_of_getElem? hu)
    have c0 : (0 ≤ (a : Int)) = True := by simp
    have c1 : ((a : Int) < (f.l.length : Int)) = True := by simp; omega
    by_cases hcl : cl < 0 ∨ cl ≥ c.cl
    · rw [if_pos (by omega)] at h65
      have hEu : pinE c u cl = 2 := by rw [pinE, if_pos (by omega)]
      obtain ⟨t1, t2⟩ := turn_no (E := (fun u => pinE c u cl)) (fun u => pinV u cl) hok hu hEu (by decide)
      rw [t1, t2]
      have tE := And.intro (@upd_upd AV) <| And.intro (@upd_upd (Option Blk)) <| And.intro Cf.cells.eq_1 <| And.intro Fs.cells.eq_1 <| And.intro frRows_len <| And.intro hEu <| And.intro ty3 <| And.intro ty4 <| And.intro ty5 <| And.intro ty23 <| And.intro ty24 <| And.intro ty26 <| And.intro ty34 <| And.intro ty35 <| And.intro ty37 <| Try.results68; repeat' first | ((with_reducible first | apply w_seq | apply w_region | apply wl_nil | apply wr_nil | apply wr_nilA | apply wr_nilE | apply go_normal | apply go_ret | apply go_exit | apply blk_normal | apply blk_ret | apply blk_here | apply w_block | apply w_skip | apply w_exit | apply w_label)) | ((with_reducible first | apply wz (tok Try.prog) | apply wr_z (tok Try.prog)); exact zZ; decide) | ((with_reducible first | apply w_alloc (tok Try.prog)); exact zT; decide) | ((with_reducible first | apply w_store (tok Try.prog)); exact zV; exact zV; exact zS) | ((with_reducible first | apply wcall' | apply wr_call); exact zV; exact zVs; exact zAs; (focus (with_unfolding_all first | exact h65)); decide) | ((with_reducible first | apply w_ift'); exact zV; exact zU) | ((with_reducible apply w_ret); (repeat (with_reducible first | apply go_ret | apply blk_ret)); (with_reducible first | apply donef_ret (tok Try.prog) | apply doneA_ret (tok Try.prog)); exact zT; exact zD) | fail
      all_goals try clear tE
      · exact tz _ _
      · exact tup_pur (fsa_pur ⟨[], 0⟩) (.int _ _)
      · rfl
    rw [if_neg (by omega)] at h65
    obtain ⟨k, rfl⟩ : ∃ k : Nat, cl = k := ⟨cl.toNat, by omega⟩
    have hpu := hpn u (List.mem_of_getElem? hu)
    have hkl : k < u.pins.length := by omega
    obtain ⟨v, hv⟩ : ∃ v, u.pins[k]? = some v := ⟨_, List.getElem?_eq_getElem hkl⟩
    have hvb := hpu.2 v (List.mem_of_getElem? hv)
    have hgd : u.pins.getD k 0 = v := by rw [List.getD_eq_getElem?_getD, hv]; rfl
    have hpN : pinN u k = v := by rw [pinN, Int.toNat_natCast]; exact hgd
    have g0 : (0 ≤ (k : Int)) = True := by simp
    have g1 : ((k : Int) < (u.pins.length : Int)) = True := by simp; exact hkl
    have hrp := int_row hv
    have h93 := pf93 f a k u (1) hu hkl hl hd (by rw [hgd]; exact wrap64 (by omega) (by omega))
    have hadd : addPin u k (1) = pinV u k := by simp [addPin, pinV, hpN, hv]
    rw [hadd] at h93
    by_cases hk : u.k = 0
    · have k1 : (u.k == 0) = true := by simp [hk]
      have hEu : pinE c u k = 2 := by rw [pinE, if_pos (.inr (.inr hk))]
      obtain ⟨t1, t2⟩ := turn_no (E := fun u => pinE c u k) (fun u => pinV u k) hok hu hEu (by decide)
      rw [t1, t2]
      have tE := And.intro (@upd_upd AV) <| And.intro (@upd_upd (Option Blk)) <| And.intro Cf.cells.eq_1 <| And.intro Fs.cells.eq_1 <| And.intro frRows_len <| And.intro hrow <| And.intro c0 <| And.intro c1 <| And.intro g0 <| And.intro g1 <| And.intro hrp <| And.intro intRows_len <| And.intro k1 <| And.intro hEu <| And.intro ty3 <| And.intro ty4 <| And.intro ty5 <| And.intro ty23 <| And.intro ty24 <| And.intro ty26 <| And.intro ty34 <| And.intro ty35 <| And.intro ty37 <| Try.results68; repeat' first | ((with_reducible first | apply w_seq | apply w_region | apply wl_nil | apply wr_nil | apply wr_nilA | apply wr_nilE | apply go_normal | apply go_ret | apply go_exit | apply blk_normal | apply blk_ret | apply blk_here | apply w_block | apply w_skip | apply w_exit | apply w_label)) | ((with_reducible first | apply wz (tok Try.prog) | apply wr_z (tok Try.prog)); exact zZ; decide) | ((with_reducible first | apply w_alloc (tok Try.prog)); exact zT; decide) | ((with_reducible first | apply w_store (tok Try.prog)); exact zV; exact zV; exact zS) | ((with_reducible first | apply wcall' | apply wr_call); exact zV; exact zVs; exact zAs; (focus (with_unfolding_all first | exact h65)); decide) | ((with_reducible first | apply w_ift'); exact zV; exact zU) | ((with_reducible first | apply w_iff'); exact zV; exact zU) | ((with_reducible apply w_ret); (repeat (with_reducible first | apply go_ret | apply blk_ret)); (with_reducible first | apply donef_ret (tok Try.prog) | apply doneA_ret (tok Try.prog)); exact zT; exact zD) | fail
      all_goals try clear tE
      · exact tz _ _
      · exact tup_pur (fsa_pur ⟨[], 0⟩) (.int _ _)
      · rfl
    · have k1 : (u.k == 0) = false := by simp [hk]
      by_cases h8 : v = 8
      · have k2 : (v == 8) = true := by simp [h8]
        have hEu : pinE c u k = 260 := by rw [pinE, if_neg (by omega), if_pos (by rw [hpN, h8])]
        obtain ⟨t1, t2⟩ := turn_no (E := fun u => pinE c u k) (fun u => pinV u k) hok hu hEu (by decide)
        rw [t1, t2]
        have tE := And.intro (@upd_upd AV) <| And.intro (@upd_upd (Option Blk)) <| And.intro Cf.cells.eq_1 <| And.intro Fs.cells.eq_1 <| And.intro frRows_len <| And.intro hrow <| And.intro c0 <| And.intro c1 <| And.intro g0 <| And.intro g1 <| And.intro hrp <| And.intro intRows_len <| And.intro k1 <| And.intro k2 <| And.intro hEu <| And.intro ty3 <| And.intro ty4 <| And.intro ty5 <| And.intro ty23 <| And.intro ty24 <| And.intro ty26 <| And.intro ty34 <| And.intro ty35 <| And.intro ty37 <| Try.results68; repeat' first | ((with_reducible first | apply w_seq | apply w_region | apply wl_nil | apply wr_nil | apply wr_nilA | apply wr_nilE | apply go_normal | apply go_ret | apply go_exit | apply blk_normal | apply blk_ret | apply blk_here | apply w_block | apply w_skip | apply w_exit | apply w_label)) | ((with_reducible first | apply wz (tok Try.prog) | apply wr_z (tok Try.prog)); exact zZ; decide) | ((with_reducible first | apply w_alloc (tok Try.prog)); exact zT; decide) | ((with_reducible first | apply w_store (tok Try.prog)); exact zV; exact zV; exact zS) | ((with_reducible first | apply wcall' | apply wr_call); exact zV; exact zVs; exact zAs; (focus (with_unfolding_all first | exact h65)); decide) | ((with_reducible first | apply w_ift'); exact zV; exact zU) | ((with_reducible first | apply w_iff'); exact zV; exact zU) | ((with_reducible apply w_ret); (repeat (with_reducible first | apply go_ret | apply blk_ret)); (with_reducible first | apply donef_ret (tok Try.prog) | apply doneA_ret (tok Try.prog)); exact zT; exact zD) | fail
        all_goals try clear tE
        · exact tz _ _
        · exact tup_pur (fsa_pur ⟨[], 0⟩) (.int _ _)
        · rfl
      · have k2 : (v == 8) = false := by simp [h8]
        obtain ⟨t1, t2⟩ := turn_yes (E := fun u => pinE c u k) (fun u => pinV u k) hok hu (by show pinE c u k = 0; rw [pinE, if_neg (by omega), if_neg (by rw [hpN]; exact h8)])
        rw [t1, t2]
        have tE := And.intro (@upd_upd AV) <| And.intro (@upd_upd (Option Blk)) <| And.intro Cf.cells.eq_1 <| And.intro Fs.cells.eq_1 <| And.intro frRows_len <| And.intro Fr.cells.eq_1 <| And.intro hrow <| And.intro c0 <| And.intro c1 <| And.intro g0 <| And.intro g1 <| And.intro hrp <| And.intro intRows_len <| And.intro k1 <| And.intro k2 <| And.intro ty3 <| And.intro ty4 <| And.intro ty5 <| And.intro ty23 <| And.intro ty24 <| And.intro ty26 <| And.intro ty34 <| And.intro ty35 <| And.intro ty37 <| Try.results68; repeat' first | ((with_reducible first | apply w_seq | apply w_region | apply wl_nil | apply wr_nil | apply wr_nilA | apply wr_nilE | apply go_normal | apply go_ret | apply go_exit | apply blk_normal | apply blk_ret | apply blk_here | apply w_block | apply w_skip | apply w_exit | apply w_label)) | ((with_reducible first | apply wz (tok Try.prog) | apply wr_z (tok Try.prog)); exact zZ; decide) | ((with_reducible first | apply w_alloc (tok Try.prog)); exact zT; decide) | ((with_reducible first | apply w_store (tok Try.prog)); exact zV; exact zV; exact zS) | ((with_reducible first | apply wcall' | apply wr_call); exact zV; exact zVs; exact zAs; (focus (with_unfolding_all first | exact h65 | exact h93)); decide) | ((with_reducible first | apply w_iff'); exact zV; exact zU) | ((with_reducible apply w_ret); (repeat (with_reducible first | apply go_ret | apply blk_ret)); (with_reducible first | apply donef_ret (tok Try.prog) | apply doneA_ret (tok Try.prog)); exact zT; exact zD) | fail
        all_goals try clear tE
        · exact .pur (tup_pur (fsa_pur ⟨f.l.set a (pinV u k), f.h⟩) (.int _ _))
        · exact tup_pur (fsa_pur ⟨f.l.set a (pinV u k), f.h⟩) (.int _ _)
        · rfl
theorem pf69 (c : Cf) (f : Fs) (a_ : Int) (cl : Int) (hl : f.l.length ≤ 1000000) (hd : ∀ x, x ∈ f.l → x.d.length ≤ 1000000 ∧ x.pins.length ≤ 1000000) : PF Try.prog 69 [.agg c.cells, .agg f.cells, .int .i64 a_, .int .i64 cl] (fun r => r = .tuple [.agg (turnF c f a_ (fun u => unpinE c u cl) (fun u => unpinV u cl)).cells, .int .i64 (turnE c f a_ (fun u => unpinE c u cl))]) := by
  have h65 := pf65 c f a_ cl hl (fun x hx => (hd x hx).2)
  refine pf_of_wf0 Try.func69 (c := _) rfl rfl (Nat.le_of_ble_eq_true rfl) (args_4 (cf_pur c) (fsa_pur f) (.int _ _) (.int _ _)) ?_
  rw [show Try.f69.ntmps = 44 from rfl]
  cases hok : okF c f with
  | false =>
    simp only [hok, Bool.false_eq_true, if_false] at h65
    obtain ⟨t1, t2⟩ := turn_bad (a := a_) (E := (fun u => unpinE c u cl)) (fun u => unpinV u cl) hok
    rw [t1, t2]
    have tE := And.intro (@upd_upd AV) <| And.intro (@upd_upd (Option Blk)) <| And.intro Cf.cells.eq_1 <| And.intro Fs.cells.eq_1 <| And.intro frRows_len <| And.intro ty3 <| And.intro ty4 <| And.intro ty5 <| And.intro ty23 <| And.intro ty24 <| And.intro ty26 <| And.intro ty34 <| And.intro ty35 <| And.intro ty37 <| Try.results69; repeat' first | ((with_reducible first | apply w_seq | apply w_region | apply wl_nil | apply wr_nil | apply wr_nilA | apply wr_nilE | apply go_normal | apply go_ret | apply go_exit | apply blk_normal | apply blk_ret | apply blk_here | apply w_block | apply w_skip | apply w_exit | apply w_label)) | ((with_reducible first | apply wz (tok Try.prog) | apply wr_z (tok Try.prog)); exact zZ; decide) | ((with_reducible first | apply w_alloc (tok Try.prog)); exact zT; decide) | ((with_reducible first | apply w_store (tok Try.prog)); exact zV; exact zV; exact zS) | ((with_reducible first | apply wcall' | apply wr_call); exact zV; exact zVs; exact zAs; (focus (with_unfolding_all first | exact h65)); decide) | ((with_reducible first | apply w_ift'); exact zV; exact zU) | ((with_reducible apply w_ret); (repeat (with_reducible first | apply go_ret | apply blk_ret)); (with_reducible first | apply donef_ret (tok Try.prog) | apply doneA_ret (tok Try.prog)); exact zT; exact zD) | fail
    all_goals try clear tE
    · exact tz _ _
    · exact tup_pur (fsa_pur ⟨[], 0⟩) (.int _ _)
    · rfl
  | true =>
    simp only [hok, if_true] at h65
    obtain ⟨cl1, cl2, cl3, hpn⟩ := ok_cl hok
    by_cases hr : a_ < 0 ∨ a_ ≥ f.l.length
    · rw [if_pos (by omega)] at h65
      obtain ⟨t1, t2⟩ := turn_out (E := (fun u => unpinE c u cl)) (fun u => unpinV u cl) hok hr
      rw [t1, t2]
      have tE := And.intro (@upd_upd AV) <| And.intro (@upd_upd (Option Blk)) <| And.intro Cf.cells.eq_1 <| And.intro Fs.cells.eq_1 <| And.intro frRows_len <| And.intro ty3 <| And.intro ty4 <| And.intro ty5 <| And.intro ty23 <| And.intro ty24 <| And.intro ty26 <| And.intro ty34 <| And.intro ty35 <| And.intro ty37 <| Try.results69; repeat' first | ((with_reducible first | apply w_seq | apply w_region | apply wl_nil | apply wr_nil | apply wr_nilA | apply wr_nilE | apply go_normal | apply go_ret | apply go_exit | apply blk_normal | apply blk_ret | apply blk_here | apply w_block | apply w_skip | apply w_exit | apply w_label)) | ((with_reducible first | apply wz (tok Try.prog) | apply wr_z (tok Try.prog)); exact zZ; decide) | ((with_reducible first | apply w_alloc (tok Try.prog)); exact zT; decide) | ((with_reducible first | apply w_store (tok Try.prog)); exact zV; exact zV; exact zS) | ((with_reducible first | apply wcall' | apply wr_call); exact zV; exact zVs; exact zAs; (focus (with_unfolding_all first | exact h65)); decide) | ((with_reducible first | apply w_ift'); exact zV; exact zU) | ((with_reducible apply w_ret); (repeat (with_reducible first | apply go_ret | apply blk_ret)); (with_reducible first | apply donef_ret (tok Try.prog) | apply doneA_ret (tok Try.prog)); exact zT; exact zD) | fail
      all_goals try clear tE
      · exact tz _ _
      · exact tup_pur (fsa_pur ⟨[], 0⟩) (.int _ _)
      · rfl
    obtain ⟨a, rfl⟩ : ∃ a : Nat, a_ = a := ⟨a_.toNat, by omega⟩
    have ha : a < f.l.length := by omega
    obtain ⟨u, hu⟩ : ∃ u, f.l[a]? = some u := ⟨_, List.getElem?_eq_getElem ha⟩
    have hrow := fr_row hu
    have hdu := hd u (List.mem_of_getElem? hu)
    have c0 : (0 ≤ (a : Int)) = True := by simp
    have c1 : ((a : Int) < (f.l.length : Int)) = True := by simp; omega
    by_cases hcl : cl < 0 ∨ cl ≥ c.cl
    · rw [if_pos (by omega)] at h65
      have hEu : unpinE c u cl = 2 := by rw [unpinE, if_pos (by omega)]
      obtain ⟨t1, t2⟩ := turn_no (E := (fun u => unpinE c u cl)) (fun u => unpinV u cl) hok hu hEu (by decide)
      rw [t1, t2]
      have tE := And.intro (@upd_upd AV) <| And.intro (@upd_upd (Option Blk)) <| And.intro Cf.cells.eq_1 <| And.intro Fs.cells.eq_1 <| And.intro frRows_len <| And.intro hEu <| And.intro ty3 <| And.intro ty4 <| And.intro ty5 <| And.intro ty23 <| And.intro ty24 <| And.intro ty26 <| And.intro ty34 <| And.intro ty35 <| And.intro ty37 <| Try.results69; repeat' first | ((with_reducible first | apply w_seq | apply w_region | apply wl_nil | apply wr_nil | apply wr_nilA | apply wr_nilE | apply go_normal | apply go_ret | apply go_exit | apply blk_normal | apply blk_ret | apply blk_here | apply w_block | apply w_skip | apply w_exit | apply w_label)) | ((with_reducible first | apply wz (tok Try.prog) | apply wr_z (tok Try.prog)); exact zZ; decide) | ((with_reducible first | apply w_alloc (tok Try.prog)); exact zT; decide) | ((with_reducible first | apply w_store (tok Try.prog)); exact zV; exact zV; exact zS) | ((with_reducible first | apply wcall' | apply wr_call); exact zV; exact zVs; exact zAs; (focus (with_unfolding_all first | exact h65)); decide) | ((with_reducible first | apply w_ift'); exact zV; exact zU) | ((with_reducible apply w_ret); (repeat (with_reducible first | apply go_ret | apply blk_ret)); (with_reducible first | apply donef_ret (tok Try.prog) | apply doneA_ret (tok Try.prog)); exact zT; exact zD) | fail
      all_goals try clear tE
      · exact tz _ _
      · exact tup_pur (fsa_pur ⟨[], 0⟩) (.int _ _)
      · rfl
    rw [if_neg (by omega)] at h65
    obtain ⟨k, rfl⟩ : ∃ k : Nat, cl = k := ⟨cl.toNat, by omega⟩
    have hpu := hpn u (List.mem_of_getElem? hu)
    have hkl : k < u.pins.length := by omega
    obtain ⟨v, hv⟩ : ∃ v, u.pins[k]? = some v := ⟨_, List.getElem?_eq_getElem hkl⟩
    have hvb := hpu.2 v (List.mem_of_getElem? hv)
    have hgd : u.pins.getD k 0 = v := by rw [List.getD_eq_getElem?_getD, hv]; rfl
    have hpN : pinN u k = v := by rw [pinN, Int.toNat_natCast]; exact hgd
    have g0 : (0 ≤ (k : Int)) = True := by simp
    have g1 : ((k : Int) < (u.pins.length : Int)) = True := by simp; exact hkl
    have hrp := int_row hv
    have h93 := pf93 f a k u (-1) hu hkl hl hd (by rw [hgd]; exact wrap64 (by omega) (by omega))
    have hadd : addPin u k (-1) = unpinV u k := by simp [addPin, unpinV, hpN, hv, Int.sub_eq_add_neg]
    rw [hadd] at h93
    by_cases hk : u.k = 2
    · have k1 : (u.k != 2) = false := by simp [hk]
      by_cases h8 : v = 0
      · have k2 : (v == 0) = true := by simp [h8]
        have hEu : unpinE c u k = 260 := by rw [unpinE, if_neg (by omega), if_pos (by rw [hpN]; exact .inr h8)]
        obtain ⟨t1, t2⟩ := turn_no (E := fun u => unpinE c u k) (fun u => unpinV u k) hok hu hEu (by decide)
        rw [t1, t2]
        have tE := And.intro (@upd_upd AV) <| And.intro (@upd_upd (Option Blk)) <| And.intro Cf.cells.eq_1 <| And.intro Fs.cells.eq_1 <| And.intro frRows_len <| And.intro hrow <| And.intro c0 <| And.intro c1 <| And.intro g0 <| And.intro g1 <| And.intro hrp <| And.intro intRows_len <| And.intro k1 <| And.intro k2 <| And.intro hEu <| And.intro ty3 <| And.intro ty4 <| And.intro ty5 <| And.intro ty23 <| And.intro ty24 <| And.intro ty26 <| And.intro ty34 <| And.intro ty35 <| And.intro ty37 <| Try.results69; repeat' first | ((with_reducible first | apply w_seq | apply w_region | apply wl_nil | apply wr_nil | apply wr_nilA | apply wr_nilE | apply go_normal | apply go_ret | apply go_exit | apply blk_normal | apply blk_ret | apply blk_here | apply w_block | apply w_skip | apply w_exit | apply w_label)) | ((with_reducible first | apply wz (tok Try.prog) | apply wr_z (tok Try.prog)); exact zZ; decide) | ((with_reducible first | apply wzg (tok Try.prog) | apply wr_zg (tok Try.prog)); exact zU; exact zL; exact zU; exact zZ; decide) | ((with_reducible first | apply w_alloc (tok Try.prog)); exact zT; decide) | ((with_reducible first | apply w_store (tok Try.prog)); exact zV; exact zV; exact zS) | ((with_reducible first | apply wcall' | apply wr_call); exact zV; exact zVs; exact zAs; (focus (with_unfolding_all first | exact h65)); decide) | ((with_reducible first | apply w_ift'); exact zV; exact zU) | ((with_reducible first | apply w_iff'); exact zV; exact zU) | ((with_reducible apply w_ret); (repeat (with_reducible first | apply go_ret | apply blk_ret)); (with_reducible first | apply donef_ret (tok Try.prog) | apply doneA_ret (tok Try.prog)); exact zT; exact zD) | fail
        all_goals try clear tE
        · exact tz _ _
        · exact tup_pur (fsa_pur ⟨[], 0⟩) (.int _ _)
        · rfl
      · have k2 : (v == 0) = false := by simp [h8]
        obtain ⟨t1, t2⟩ := turn_yes (E := fun u => unpinE c u k) (fun u => unpinV u k) hok hu (by show unpinE c u k = 0; rw [unpinE, if_neg (by omega), if_neg (by rw [hpN]; rintro (h | h); exact h hk; exact h8 h)])
        rw [t1, t2]
        have tE := And.intro (@upd_upd AV) <| And.intro (@upd_upd (Option Blk)) <| And.intro Cf.cells.eq_1 <| And.intro Fs.cells.eq_1 <| And.intro frRows_len <| And.intro Fr.cells.eq_1 <| And.intro hrow <| And.intro c0 <| And.intro c1 <| And.intro g0 <| And.intro g1 <| And.intro hrp <| And.intro intRows_len <| And.intro k1 <| And.intro k2 <| And.intro ty3 <| And.intro ty4 <| And.intro ty5 <| And.intro ty23 <| And.intro ty24 <| And.intro ty26 <| And.intro ty34 <| And.intro ty35 <| And.intro ty37 <| Try.results69; repeat' first | ((with_reducible first | apply w_seq | apply w_region | apply wl_nil | apply wr_nil | apply wr_nilA | apply wr_nilE | apply go_normal | apply go_ret | apply go_exit | apply blk_normal | apply blk_ret | apply blk_here | apply w_block | apply w_skip | apply w_exit | apply w_label)) | ((with_reducible first | apply wz (tok Try.prog) | apply wr_z (tok Try.prog)); exact zZ; decide) | ((with_reducible first | apply wzg (tok Try.prog) | apply wr_zg (tok Try.prog)); exact zU; exact zL; exact zU; exact zZ; decide) | ((with_reducible first | apply w_alloc (tok Try.prog)); exact zT; decide) | ((with_reducible first | apply w_store (tok Try.prog)); exact zV; exact zV; exact zS) | ((with_reducible first | apply wcall' | apply wr_call); exact zV; exact zVs; exact zAs; (focus (with_unfolding_all first | exact h65 | exact h93)); decide) | ((with_reducible first | apply w_iff'); exact zV; exact zU) | ((with_reducible apply w_ret); (repeat (with_reducible first | apply go_ret | apply blk_ret)); (with_reducible first | apply donef_ret (tok Try.prog) | apply doneA_ret (tok Try.prog)); exact zT; exact zD) | fail
        all_goals try clear tE
        · exact .pur (tup_pur (fsa_pur ⟨f.l.set a (unpinV u k), f.h⟩) (.int _ _))
        · exact tup_pur (fsa_pur ⟨f.l.set a (unpinV u k), f.h⟩) (.int _ _)
        · rfl
    · have k1 : (u.k != 2) = true := by simp [hk]
      have hEu : unpinE c u k = 260 := by rw [unpinE, if_neg (by omega), if_pos (.inl hk)]
      obtain ⟨t1, t2⟩ := turn_no (E := fun u => unpinE c u k) (fun u => unpinV u k) hok hu hEu (by decide)
      rw [t1, t2]
      have tE := And.intro (@upd_upd AV) <| And.intro (@upd_upd (Option Blk)) <| And.intro Cf.cells.eq_1 <| And.intro Fs.cells.eq_1 <| And.intro frRows_len <| And.intro hrow <| And.intro c0 <| And.intro c1 <| And.intro g0 <| And.intro g1 <| And.intro hrp <| And.intro intRows_len <| And.intro k1 <| And.intro hEu <| And.intro ty3 <| And.intro ty4 <| And.intro ty5 <| And.intro ty23 <| And.intro ty24 <| And.intro ty26 <| And.intro ty34 <| And.intro ty35 <| And.intro ty37 <| Try.results69; repeat' first | ((with_reducible first | apply w_seq | apply w_region | apply wl_nil | apply wr_nil | apply wr_nilA | apply wr_nilE | apply go_normal | apply go_ret | apply go_exit | apply blk_normal | apply blk_ret | apply blk_here | apply w_block | apply w_skip | apply w_exit | apply w_label)) | ((with_reducible first | apply wz (tok Try.prog) | apply wr_z (tok Try.prog)); exact zZ; decide) | ((with_reducible first | apply wskip' | apply wr_skip); exact zU; exact zL; exact zU; decide) | ((with_reducible first | apply w_alloc (tok Try.prog)); exact zT; decide) | ((with_reducible first | apply w_store (tok Try.prog)); exact zV; exact zV; exact zS) | ((with_reducible first | apply wcall' | apply wr_call); exact zV; exact zVs; exact zAs; (focus (with_unfolding_all first | exact h65)); decide) | ((with_reducible first | apply w_ift'); exact zV; exact zU) | ((with_reducible first | apply w_iff'); exact zV; exact zU) | ((with_reducible apply w_ret); (repeat (with_reducible first | apply go_ret | apply blk_ret)); (with_reducible first | apply donef_ret (tok Try.prog) | apply doneA_ret (tok Try.prog)); exact zT; exact zD) | fail
      all_goals try clear tE
      · exact tz _ _
      · exact tup_pur (fsa_pur ⟨[], 0⟩) (.int _ _)
      · rfl
end Go.Proofs.Ytlmighkbeacjnaa
