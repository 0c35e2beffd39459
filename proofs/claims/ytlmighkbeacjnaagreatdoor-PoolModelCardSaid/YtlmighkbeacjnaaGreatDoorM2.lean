/- PoolModel: the law's walk. -/
import Derived.Test.YtlmighkbeacjnaaGreatDoorLm5
import Derived.Test.YtlmighkbeacjnaaGreatDoorM1
open Go Go.Lg
set_option linter.unusedSimpArgs false
set_option linter.unusedVariables false
set_option maxHeartbeats 8000000
set_option maxRecDepth 20000
namespace Go.Proofs.YtlmighkbeacjnaaGreatDoor
theorem tkM2 : TOK Tryz.prog (tyOf Tryz.prog) := tok Tryz.prog
def tfM20 := PLift.up (aI ty3 <| aI ty4 <| aI ty5 <| aI ty23 <| aI ty24 <| aI ty26 <| aI ty27 <| aI ty28 <| aI ty30 <| aI ty34 <| aI ty36 <| aI ty58 <| aI ty60 <| aI ty72 <| aI ty74 <| Tryz.results5)
theorem great_few2 {l : List Un} (h : great l = false) : l.length ≤ 40 ∧ ∀ u, u ∈ l → u.d.length ≤ 100 := by
  simp only [great, Bool.or_eq_false_iff, decide_eq_false_iff_not, List.any_eq_false, decide_eq_true_eq] at h
  have h1 : l.length ≤ 40 := by omega
  refine ⟨h1, fun u hu => ?_⟩
  have := h.1 u (by rw [List.take_of_length_le h1]; exact hu)
  omega
theorem pf23_eq {a b : List UInt8} (h : a = b) : PF Tryz.prog 23 [.view (byteRows a), .view (byteRows b)] (fun r => r = .bool true) := by
  have := pf23 a b
  rwa [decide_eq_true h] at this
theorem ac5_main [GO] (hgo : GoOK) (c : Cf) (f : Fs) (q : List Un) (base : List (List UInt8)) (cl : Int) (x : Ca) (hg : (greatF f.l || great q) = false) (hx : x.d.length ≤ 100) (hb : base.length ≤ 64) (hs : Sound c f q base) :
    AC Tryz.prog 5 [.agg c.cells, .agg f.cells, .view (unRows q), .view (bbRows base), .int .i64 cl, .agg x.cells] (gH) 1 (fun r H n => r = .ret (.bool true) ∧ H 0 = gH 0) := by
  have h28 : AC Tryz.prog 28 [] (gH) 1 (fun r H' n' => r = .ret (.bool true) ∧ H' = gH ∧ n' = 1) := ac28 hgo gH 1 gH_zero (by decide)
  have h8 := pf8 f q
  rw [hg] at h8
  simp only [Bool.or_eq_false_iff] at hg
  obtain ⟨hl0, hd0⟩ := great_small hg.1
  obtain ⟨hq0, hqd⟩ := great_few2 hg.2
  have hl : f.l.length ≤ 1000000 := by omega
  have hd : ∀ x, x ∈ f.l → x.d.length ≤ 1000000 ∧ x.pins.length ≤ 1000000 := fun x hx => by have := hd0 x hx; omega
  have h29 := pf29 c f q base (by omega) (by omega) hl (fun x hx => (hd x hx).2)
  rw [sB_true hs] at h29
  have h11 := ac11 hgo c f q cl x (by omega) hd (by omega) (fun u hu => Nat.le_trans (hqd u hu) (by decide)) (by omega) (gH) 1 gH_zero (by decide)
  refine ac_of_w Tryz.func5 (c := _) rfl (Nat.le_of_ble_eq_true rfl) ?_
  rw [show Tryz.f5.ntmps = 156 from rfl]
  have hqv := unRows_pur q
  have hbv := bbRows_pur base
  have hfv : Pur (.vptr f.cells) := .vptr (fs_pur f)
  have hcv : Pur (.vptr c.cells) := .vptr (cells_pur c)
  have hxv : Pur (.vptr x.cells) := .vptr (ca_pur x)
  have g0 : ((x.d.length : Int) > 100) = False := eq_false (by omega)
  have g1 : ((base.length : Int) > 64) = False := eq_false (by omega)
  by_cases hE : doE c f q cl x = 0
  · have hD := do_law hs hE
    rw [hE] at h11
    generalize doP c f q cl x = D at h11 hD
    obtain ⟨hDs, hct, hrd, hno⟩ := hD
    obtain ⟨d1, d2, d3⟩ := sound_small hDs
    have k29 := pf29 c D.f D.q base (by omega) d3 d1 d2
    rw [sB_true hDs] at k29
    have hfl : f.l.length ≤ 1000000 := hl
    simp only [Po.cells, Ca.cells] at h11
    have tE := aI uU <| aI Cf.cells.eq_1 <| aI Fs.cells.eq_1 <| aI Ca.cells.eq_1 <| aI g0 <| aI g1 <| aI byteRows_len <| aI bbRows_len <| tfM20.down; repeat' first | (refine Red.h ?_) | ((with_reducible first | apply wz tkM2 | apply wr_z tkM2); exact zZ; decide) | ((with_reducible first | apply wzg tkM2 | apply wr_zg tkM2); exact zU; exact zL; exact zU; exact zZ; decide) | ((with_reducible first | apply w_alloc tkM2); exact zT; decide) | ((with_reducible first | apply w_store tkM2); exact zV; exact zV; exact zS) | ((with_reducible first | apply wcall' | apply wr_call); exact zV; exact zVs; exact zAs; (focus (with_unfolding_all first | exact h8 | exact h29 | exact k29)); decide) | ((with_reducible first | apply wcallg' | apply wr_callg); exact zU; exact zL; exact zU; exact zV; exact zVs; exact zAs; (focus (with_unfolding_all first | exact h8 | exact h29 | exact k29)); decide) | ((with_reducible first | apply wacall'); exact zV; exact zVs; exact zAs; (focus (first | exact ⟨_, Tryz.func11, rfl, rfl⟩ | exact ⟨_, Tryz.func28, rfl, rfl⟩)); (focus (with_unfolding_all first | exact h28 | exact h11)); decide) | ((with_reducible first | apply w_iff'); exact zV; exact zU) | fail
    all_goals try clear tE
    have hlen := hs.len
    refine w_loopP (S := Nat) (fun i => [(2, .view (unRows q)), (3, .view (bbRows base)), (6, .vptr c.cells), (7, .vptr f.cells), (11, .vptr x.cells), (13, .bool true), (14, .ptr 1 0), (16, .int .i64 (i : Int))]) [] (fun i H k => i ≤ base.length ∧ H 0 = gH 0 ∧ H 1 = some (.cells [.view (frRows D.f.l), .int .i64 D.f.h, .view (unRows D.q), .int .i64 D.e, .view (byteRows D.d), .int .i64 D.w, .bool D.s] 36) ∧ 2 ≤ k) (fun i => base.length - i) 0 ?_ rfl ?_ ?_
    · (have tE := aI uU <| aI Fs.cells.eq_1 <| aI Cf.cells.eq_1 <| Ca.cells.eq_1; simp only [fitsT, List.take_zero, List.length_nil, sp_cons, sp_nil, upd_b, Nat.reduceBEq, cond_true, cond_false, args0_zero, args0_succ, args0_nil, tE]; repeat' first | exact trivial | apply aI | exact Sub.refl _ | exact Sub.cap)
    · exact ⟨Nat.zero_le _, rfl, rfl, Nat.le_refl 2⟩
    · rintro i H k ⟨hi, hz, e1, hk⟩
      have hw : IntKind.i64.wrap ((i : Int) + 1) = ((i + 1 : Nat) : Int) := by rw [wrap64 (by omega) (by omega)]; rfl
      by_cases e : i < base.length
      · have h1 : ((i : Int) < c.p) = True := eq_true (by omega)
        have k1 := pf30 f q base i e (by omega) (by omega) hl
        have k2 := pf30 D.f D.q base i e (by omega) d3 d1
        rw [hct] at k2
        simp only [Fs.cells] at k1 k2
        have h23 := pf23_eq (rfl : content f q base i = content f q base i)
        by_cases hDE : D.e = 0
        · have gE : (D.e == 0) = true := by simp [hDE]
          by_cases h3 : x.k = 3
          · have g3 : (x.k == 3) = true := by simp [h3]
            have g2 : (x.k == 2) = false := by simp [h3]
            by_cases hxp : x.p = i
            · have gp : (x.p == (i : Int)) = true := by simp [hxp]
              rw [if_pos ⟨hDE, h3, hxp⟩] at k2
              have h23 := pf23_eq (rfl : x.d = x.d)
              have tE := aI uU <| aI Cf.cells.eq_1 <| aI Fs.cells.eq_1 <| aI Ca.cells.eq_1 <| aI Po.cells.eq_1 <| aI Nat.add_zero <| aI e1 <| aI h1 <| aI hw <| aI gE <| aI g3 <| aI g2 <| aI gp <| tfM20.down; repeat' first | (refine Red.h ?_) | ((with_reducible first | apply wz tkM2 | apply wr_z tkM2); exact zZ; decide) | ((with_reducible first | apply wzg tkM2 | apply wr_zg tkM2); exact zU; exact zL; exact zU; exact zZ; decide) | ((with_reducible first | apply wskip' | apply wr_skip); exact zU; exact zL; exact zU; decide) | ((with_reducible first | apply wcall' | apply wr_call); exact zV; exact zVs; exact zAs; (focus (with_unfolding_all first | exact k1 | exact k2 | exact h23)); decide) | ((with_reducible first | apply w_ift'); exact zV; exact zU) | ((with_reducible first | apply w_iff'); exact zV; exact zU) | fail
              all_goals try clear tE
              exact ⟨i + 1, by omega, ⟨by omega, hz, e1, hk⟩, rfl, by (have tE := aI uU <| aI hw <| aI Cf.cells.eq_1 <| aI Fs.cells.eq_1 <| Ca.cells.eq_1; simp only [fitsT, List.take_zero, List.length_nil, sp_cons, sp_nil, upd_b, Nat.reduceBEq, cond_true, cond_false, args0_zero, args0_succ, args0_nil, tE]; repeat' first | exact trivial | apply aI | exact Sub.refl _ | exact Sub.cap)⟩
            · have gp : (x.p == (i : Int)) = false := by simp [hxp]
              rw [if_neg (fun h => hxp h.2.2)] at k2
              have tE := aI uU <| aI Cf.cells.eq_1 <| aI Fs.cells.eq_1 <| aI Ca.cells.eq_1 <| aI Po.cells.eq_1 <| aI Nat.add_zero <| aI e1 <| aI h1 <| aI hw <| aI gE <| aI g3 <| aI g2 <| aI gp <| tfM20.down; repeat' first | (refine Red.h ?_) | ((with_reducible first | apply wz tkM2 | apply wr_z tkM2); exact zZ; decide) | ((with_reducible first | apply wzg tkM2 | apply wr_zg tkM2); exact zU; exact zL; exact zU; exact zZ; decide) | ((with_reducible first | apply wskip' | apply wr_skip); exact zU; exact zL; exact zU; decide) | ((with_reducible first | apply wcall' | apply wr_call); exact zV; exact zVs; exact zAs; (focus (with_unfolding_all first | exact k1 | exact k2 | exact h23)); decide) | ((with_reducible first | apply w_ift'); exact zV; exact zU) | ((with_reducible first | apply w_iff'); exact zV; exact zU) | fail
              all_goals try clear tE
              exact ⟨i + 1, by omega, ⟨by omega, hz, e1, hk⟩, rfl, by (have tE := aI uU <| aI hw <| aI Cf.cells.eq_1 <| aI Fs.cells.eq_1 <| Ca.cells.eq_1; simp only [fitsT, List.take_zero, List.length_nil, sp_cons, sp_nil, upd_b, Nat.reduceBEq, cond_true, cond_false, args0_zero, args0_succ, args0_nil, tE]; repeat' first | exact trivial | apply aI | exact Sub.refl _ | exact Sub.cap)⟩
          · have g3 : (x.k == 3) = false := by simp [h3]
            rw [if_neg (fun h => h3 h.2.1)] at k2
            by_cases h2 : x.k = 2
            · have g2 : (x.k == 2) = true := by simp [h2]
              by_cases hxp : x.p = i
              · have gp : (x.p == (i : Int)) = true := by simp [hxp]
                have h23d : PF Tryz.prog 23 [.view (byteRows D.d), .view (byteRows (content f q base i))] (fun r => r = .bool true) := pf23_eq (by rw [hrd hDE h2, hxp])
                have tE := aI uU <| aI Cf.cells.eq_1 <| aI Fs.cells.eq_1 <| aI Ca.cells.eq_1 <| aI Po.cells.eq_1 <| aI Nat.add_zero <| aI e1 <| aI h1 <| aI hw <| aI gE <| aI g3 <| aI g2 <| aI gp <| tfM20.down; repeat' first | (refine Red.h ?_) | ((with_reducible first | apply wz tkM2 | apply wr_z tkM2); exact zZ; decide) | ((with_reducible first | apply wzg tkM2 | apply wr_zg tkM2); exact zU; exact zL; exact zU; exact zZ; decide) | ((with_reducible first | apply wskip' | apply wr_skip); exact zU; exact zL; exact zU; decide) | ((with_reducible first | apply wcall' | apply wr_call); exact zV; exact zVs; exact zAs; (focus (with_unfolding_all first | exact k1 | exact k2 | exact h23 | exact h23d)); decide) | ((with_reducible first | apply wcallg' | apply wr_callg); exact zU; exact zL; exact zU; exact zV; exact zVs; exact zAs; (focus (with_unfolding_all first | exact k1 | exact k2 | exact h23 | exact h23d)); decide) | ((with_reducible first | apply w_ift'); exact zV; exact zU) | ((with_reducible first | apply w_iff'); exact zV; exact zU) | fail
                all_goals try clear tE
                exact ⟨i + 1, by omega, ⟨by omega, hz, e1, hk⟩, rfl, by (have tE := aI uU <| aI hw <| aI Cf.cells.eq_1 <| aI Fs.cells.eq_1 <| Ca.cells.eq_1; simp only [fitsT, List.take_zero, List.length_nil, sp_cons, sp_nil, upd_b, Nat.reduceBEq, cond_true, cond_false, args0_zero, args0_succ, args0_nil, tE]; repeat' first | exact trivial | apply aI | exact Sub.refl _ | exact Sub.cap)⟩
              · have gp : (x.p == (i : Int)) = false := by simp [hxp]
                have tE := aI uU <| aI Cf.cells.eq_1 <| aI Fs.cells.eq_1 <| aI Ca.cells.eq_1 <| aI Po.cells.eq_1 <| aI Nat.add_zero <| aI e1 <| aI h1 <| aI hw <| aI gE <| aI g3 <| aI g2 <| aI gp <| tfM20.down; repeat' first | (refine Red.h ?_) | ((with_reducible first | apply wz tkM2 | apply wr_z tkM2); exact zZ; decide) | ((with_reducible first | apply wzg tkM2 | apply wr_zg tkM2); exact zU; exact zL; exact zU; exact zZ; decide) | ((with_reducible first | apply wskip' | apply wr_skip); exact zU; exact zL; exact zU; decide) | ((with_reducible first | apply wcall' | apply wr_call); exact zV; exact zVs; exact zAs; (focus (with_unfolding_all first | exact k1 | exact k2 | exact h23)); decide) | ((with_reducible first | apply w_ift'); exact zV; exact zU) | ((with_reducible first | apply w_iff'); exact zV; exact zU) | fail
                all_goals try clear tE
                exact ⟨i + 1, by omega, ⟨by omega, hz, e1, hk⟩, rfl, by (have tE := aI uU <| aI hw <| aI Cf.cells.eq_1 <| aI Fs.cells.eq_1 <| Ca.cells.eq_1; simp only [fitsT, List.take_zero, List.length_nil, sp_cons, sp_nil, upd_b, Nat.reduceBEq, cond_true, cond_false, args0_zero, args0_succ, args0_nil, tE]; repeat' first | exact trivial | apply aI | exact Sub.refl _ | exact Sub.cap)⟩
            · have g2 : (x.k == 2) = false := by simp [h2]
              have tE := aI uU <| aI Cf.cells.eq_1 <| aI Fs.cells.eq_1 <| aI Ca.cells.eq_1 <| aI Po.cells.eq_1 <| aI Nat.add_zero <| aI e1 <| aI h1 <| aI hw <| aI gE <| aI g3 <| aI g2 <| tfM20.down; repeat' first | (refine Red.h ?_) | ((with_reducible first | apply wz tkM2 | apply wr_z tkM2); exact zZ; decide) | ((with_reducible first | apply wzg tkM2 | apply wr_zg tkM2); exact zU; exact zL; exact zU; exact zZ; decide) | ((with_reducible first | apply wskip' | apply wr_skip); exact zU; exact zL; exact zU; decide) | ((with_reducible first | apply wcall' | apply wr_call); exact zV; exact zVs; exact zAs; (focus (with_unfolding_all first | exact k1 | exact k2 | exact h23)); decide) | ((with_reducible first | apply w_ift'); exact zV; exact zU) | ((with_reducible first | apply w_iff'); exact zV; exact zU) | fail
              all_goals try clear tE
              exact ⟨i + 1, by omega, ⟨by omega, hz, e1, hk⟩, rfl, by (have tE := aI uU <| aI hw <| aI Cf.cells.eq_1 <| aI Fs.cells.eq_1 <| Ca.cells.eq_1; simp only [fitsT, List.take_zero, List.length_nil, sp_cons, sp_nil, upd_b, Nat.reduceBEq, cond_true, cond_false, args0_zero, args0_succ, args0_nil, tE]; repeat' first | exact trivial | apply aI | exact Sub.refl _ | exact Sub.cap)⟩
        · have gE : (D.e == 0) = false := by simp [hDE]
          rw [if_neg (fun h => hDE h.1)] at k2
          have tE := aI uU <| aI Cf.cells.eq_1 <| aI Fs.cells.eq_1 <| aI Ca.cells.eq_1 <| aI Po.cells.eq_1 <| aI Nat.add_zero <| aI e1 <| aI h1 <| aI hw <| aI gE <| tfM20.down; repeat' first | (refine Red.h ?_) | ((with_reducible first | apply wz tkM2 | apply wr_z tkM2); exact zZ; decide) | ((with_reducible first | apply wskip' | apply wr_skip); exact zU; exact zL; exact zU; decide) | ((with_reducible first | apply wcall' | apply wr_call); exact zV; exact zVs; exact zAs; (focus (with_unfolding_all first | exact k1 | exact k2 | exact h23)); decide) | ((with_reducible first | apply w_ift'); exact zV; exact zU) | ((with_reducible first | apply w_iff'); exact zV; exact zU) | fail
          all_goals try clear tE
          exact ⟨i + 1, by omega, ⟨by omega, hz, e1, hk⟩, rfl, by (have tE := aI uU <| aI hw <| aI Cf.cells.eq_1 <| aI Fs.cells.eq_1 <| Ca.cells.eq_1; simp only [fitsT, List.take_zero, List.length_nil, sp_cons, sp_nil, upd_b, Nat.reduceBEq, cond_true, cond_false, args0_zero, args0_succ, args0_nil, tE]; repeat' first | exact trivial | apply aI | exact Sub.refl _ | exact Sub.cap)⟩
      · have h1 : ((i : Int) < c.p) = False := eq_false (by omega)
        by_cases hDE : D.e = 0
        · have gE : (D.e == 0) = true := by simp [hDE]
          have tE := aI uU <| aI Cf.cells.eq_1 <| aI Fs.cells.eq_1 <| aI Po.cells.eq_1 <| aI Nat.add_zero <| aI e1 <| aI h1 <| aI gE <| tfM20.down; repeat' first | (refine Red.h ?_) | ((with_reducible first | apply wz tkM2 | apply wr_z tkM2); exact zZ; decide) | ((with_reducible first | apply wzg tkM2 | apply wr_zg tkM2); exact zU; exact zL; exact zU; exact zZ; decide) | ((with_reducible first | apply wskip' | apply wr_skip); exact zU; exact zL; exact zU; decide) | ((with_reducible first | apply w_iff'); exact zV; exact zU) | ((with_reducible apply w_ret); (repeat refine Red.h ?_); (with_reducible first | apply donef_ret tkM2 | apply doneA_ret tkM2); exact zT; exact zD) | fail
          all_goals try clear tE
          exact ⟨rfl, hz⟩
        · have gE : (D.e == 0) = false := by simp [hDE]
          obtain ⟨n1, n2, n3, n4⟩ := hno hDE
          have h21 : PF Tryz.prog 21 [.agg D.f.cells, .agg f.cells] (fun r => r = .bool true) := by
            have := pf21 D.f f d1 d2
            rw [show sameF D.f f = true by rw [n1]; simp [sameF]] at this
            exact this
          have h22 : PF Tryz.prog 22 [.view (unRows D.q), .view (unRows q)] (fun r => r = .bool true) := by
            have := pf22 D.q q d3
            rwa [decide_eq_true n2] at this
          have gw : (D.w == 0) = true := by simp [n3]
          simp only [Fs.cells] at h21
          have tE := aI uU <| aI Cf.cells.eq_1 <| aI Fs.cells.eq_1 <| aI Po.cells.eq_1 <| aI Nat.add_zero <| aI e1 <| aI h1 <| aI gE <| aI gw <| aI n4 <| tfM20.down; repeat' first | (refine Red.h ?_) | ((with_reducible first | apply wz tkM2 | apply wr_z tkM2); exact zZ; decide) | ((with_reducible first | apply wzg tkM2 | apply wr_zg tkM2); exact zU; exact zL; exact zU; exact zZ; decide) | ((with_reducible first | apply wcallg' | apply wr_callg); exact zU; exact zL; exact zU; exact zV; exact zVs; exact zAs; (focus (with_unfolding_all first | exact h21 | exact h22)); decide) | ((with_reducible first | apply w_iff'); exact zV; exact zU) | ((with_reducible apply w_ret); (repeat refine Red.h ?_); (with_reducible first | apply donef_ret tkM2 | apply doneA_ret tkM2); exact zT; exact zD) | fail
          all_goals try clear tE
          exact ⟨rfl, hz⟩
  · have hE2 : doE c f q cl x = 2 := by
      have h8 : eT c f q = 0 := eT_ok ⟨hs.okf, hs.okq, hs.tog⟩
      unfold doE at hE ⊢
      rw [if_pos h8] at hE ⊢
      split at hE
      · exact absurd rfl hE
      · rename_i hh; rw [if_neg hh]
    rw [hE2] at h11
    simp only [Po.cells, Ca.cells] at h11
    have tE := aI uU <| aI Cf.cells.eq_1 <| aI Fs.cells.eq_1 <| aI Ca.cells.eq_1 <| aI g0 <| aI g1 <| aI byteRows_len <| aI bbRows_len <| tfM20.down; repeat' first | (refine Red.h ?_) | ((with_reducible first | apply wz tkM2 | apply wr_z tkM2); exact zZ; decide) | ((with_reducible first | apply wzg tkM2 | apply wr_zg tkM2); exact zU; exact zL; exact zU; exact zZ; decide) | ((with_reducible first | apply w_alloc tkM2); exact zT; decide) | ((with_reducible first | apply w_store tkM2); exact zV; exact zV; exact zS) | ((with_reducible first | apply wcall' | apply wr_call); exact zV; exact zVs; exact zAs; (focus (with_unfolding_all first | exact h8 | exact h29)); decide) | ((with_reducible first | apply wcallg' | apply wr_callg); exact zU; exact zL; exact zU; exact zV; exact zVs; exact zAs; (focus (with_unfolding_all first | exact h8 | exact h29)); decide) | ((with_reducible first | apply wacall'); exact zV; exact zVs; exact zAs; (focus (first | exact ⟨_, Tryz.func11, rfl, rfl⟩ | exact ⟨_, Tryz.func28, rfl, rfl⟩)); (focus (with_unfolding_all first | exact h28 | exact h11)); decide) | ((with_reducible first | apply w_ift'); exact zV; exact zU) | ((with_reducible first | apply w_iff'); exact zV; exact zU) | ((with_reducible apply w_ret); (repeat refine Red.h ?_); (with_reducible first | apply donef_ret tkM2 | apply doneA_ret tkM2); exact zT; exact zD) | fail
    all_goals try clear tE
    exact ⟨rfl, by rw [upd_ne _ _ (by omega)]⟩
theorem ac5 [GO] (hgo : GoOK) (c : Cf) (f : Fs) (q : List Un) (base : List (List UInt8)) (cl : Int) (x : Ca) :
    AC Tryz.prog 5 [.agg c.cells, .agg f.cells, .view (unRows q), .view (bbRows base), .int .i64 cl, .agg x.cells] (gH) 1 (fun r H n => r = .ret (.bool true) ∧ H 0 = gH 0) := by
  have h29 : base.length ≤ 64 → (greatF f.l || great q) = false → PF Tryz.prog 29 [.agg c.cells, .agg f.cells, .view (unRows q), .view (bbRows base)] (fun r => r = .bool (sB c f q base)) := fun hb hg => by
    simp only [Bool.or_eq_false_iff] at hg
    obtain ⟨hl0, hd0⟩ := great_small hg.1
    obtain ⟨hq0, hqd⟩ := great_few2 hg.2
    exact pf29 c f q base (by omega) (by omega) (by omega) (fun x hx => by have := hd0 x hx; omega)
  by_cases hg : (greatF f.l || great q) = true
  · exact ac5_early hgo c f q base cl x (.inl hg) h29
  · have hg : (greatF f.l || great q) = false := by simpa using hg
    by_cases hx : x.d.length > 100
    · exact ac5_early hgo c f q base cl x (.inr (.inl hx)) h29
    · by_cases hb : base.length > 64
      · exact ac5_early hgo c f q base cl x (.inr (.inr (.inl hb))) h29
      · by_cases hs : Sound c f q base
        · exact ac5_main hgo c f q base cl x hg (by omega) (by omega) hs
        · exact ac5_early hgo c f q base cl x (.inr (.inr (.inr ⟨hg, by omega, by omega, hs⟩))) h29
end Go.Proofs.YtlmighkbeacjnaaGreatDoor

