/- PoolWaits: the law computes true, the package variable given. -/
import Derived.Test.YtlmighkbeacjnaaGreatDoorLm5
import Derived.Test.YtlmighkbeacjnaaGreatDoorW1
import Derived.Test.YtlmighkbeacjnaaGreatDoorYe
import Derived.Test.YtlmighkbeacjnaaGreatDoorAL
open Go Go.Lg
set_option linter.unusedSimpArgs false
set_option linter.unusedVariables false
set_option maxHeartbeats 8000000
set_option maxRecDepth 20000
namespace Go.Proofs.YtlmighkbeacjnaaGreatDoor
theorem tkW2 : TOK Tryz.prog (tyOf Tryz.prog) := tok Tryz.prog
def tfW20 := PLift.up (aI ty3 <| aI ty4 <| aI ty5 <| aI ty23 <| aI ty24 <| aI ty26 <| aI ty27 <| aI ty28 <| aI ty30 <| aI ty34 <| aI ty36 <| aI ty58 <| aI ty72 <| aI ty74 <| Tryz.results7)
theorem do_wait {c : Cf} {f : Fs} {q : List Un} {cl : Int} {x : Ca} (he : doE c f q cl x = 0) : ((doP c f q cl x).e = 0 → WaitP c q x (doP c f q cl x) ∧ c.q ≤ 16) ∧ ((doP c f q cl x).e ≠ 0 → (doP c f q cl x).w = 0) := by
  obtain ⟨e1, e2, e3, e4, e5, e6, e7⟩ := doE_parts he
  rw [doP, if_pos he]
  unfold doR
  by_cases h : (callR c cl (p0 f q 0) x).2 = 0
  · rw [if_pos h]
    have := call_wait (cl := cl) e1 e2 e3 h
    exact ⟨fun _ => ⟨this, (cf_q (okF_parts e1).1).2⟩, fun hn => absurd this.e hn⟩
  · rw [if_neg h]
    exact ⟨fun hh => absurd hh h, fun _ => rfl⟩
theorem great_few3 {l : List Un} (h : great l = false) : l.length ≤ 40 ∧ ∀ u, u ∈ l → u.d.length ≤ 100 := by
  simp only [great, Bool.or_eq_false_iff, decide_eq_false_iff_not, List.any_eq_false, decide_eq_true_eq] at h
  have h1 : l.length ≤ 40 := by omega
  refine ⟨h1, fun u hu => ?_⟩
  have := h.1 u (by rw [List.take_of_length_le h1]; exact hu)
  omega
theorem ac7_early [GO] (hgo : GoOK) (c : Cf) (f : Fs) (q : List Un) (cl : Int) (x : Ca) (h : (greatF f.l || great q) = true ∨ x.d.length > 100) :
    AC Tryz.prog 7 [.agg c.cells, .agg f.cells, .view (unRows q), .int .i64 cl, .agg x.cells] (gH) 1 (fun r H n => r = .ret (.bool true) ∧ H 0 = gH 0) := by
  have h28 : AC Tryz.prog 28 [] (gH) 1 (fun r H' n' => r = .ret (.bool true) ∧ H' = gH ∧ n' = 1) := ac28 hgo gH 1 gH_zero (by decide)
  have h8 := pf8 f q
  refine ac_of_w Tryz.func7 (c := _) rfl (Nat.le_of_ble_eq_true rfl) ?_
  rw [show Tryz.f7.ntmps = 136 from rfl]
  have hqv := unRows_pur q
  have hfv : Pur (.vptr f.cells) := .vptr (fs_pur f)
  have hcv : Pur (.vptr c.cells) := .vptr (cells_pur c)
  have hxv : Pur (.vptr x.cells) := .vptr (ca_pur x)
  cases hg : (greatF f.l || great q) with
  | true =>
    rw [hg] at h8
    have tE := aI uU <| aI Cf.cells.eq_1 <| aI Fs.cells.eq_1 <| aI Ca.cells.eq_1 <| tfW20.down; repeat' first | (refine Red.h ?_) | ((with_reducible first | apply wz tkW2 | apply wr_z tkW2); exact zZ; decide) | ((with_reducible first | apply wskip' | apply wr_skip); exact zU; exact zL; exact zU; decide) | ((with_reducible first | apply wcall' | apply wr_call); exact zV; exact zVs; exact zAs; (focus (with_unfolding_all first | exact h8)); decide) | ((with_reducible first | apply wacall'); exact zV; exact zVs; exact zAs; (focus (first | exact ⟨_, Tryz.func28, rfl, rfl⟩)); (focus (with_unfolding_all first | exact h28)); decide) | ((with_reducible first | apply w_ift'); exact zV; exact zU) | ((with_reducible apply w_ret); (repeat refine Red.h ?_); (with_reducible first | apply donef_ret tkW2 | apply doneA_ret tkW2); exact zT; exact zD) | fail
    all_goals try clear tE
    exact ⟨rfl, rfl⟩
  | false =>
    rw [hg] at h8
    have hx : x.d.length > 100 := by
      rcases h with h | h
      · rw [hg] at h; cases h
      · exact h
    have g0 : ((x.d.length : Int) > 100) = True := eq_true (by omega)
    have tE := aI uU <| aI Cf.cells.eq_1 <| aI Fs.cells.eq_1 <| aI Ca.cells.eq_1 <| aI g0 <| aI byteRows_len <| tfW20.down; repeat' first | (refine Red.h ?_) | ((with_reducible first | apply wz tkW2 | apply wr_z tkW2); exact zZ; decide) | ((with_reducible first | apply wzg tkW2 | apply wr_zg tkW2); exact zU; exact zL; exact zU; exact zZ; decide) | ((with_reducible first | apply wskip' | apply wr_skip); exact zU; exact zL; exact zU; decide) | ((with_reducible first | apply wcall' | apply wr_call); exact zV; exact zVs; exact zAs; (focus (with_unfolding_all first | exact h8)); decide) | ((with_reducible first | apply wacall'); exact zV; exact zVs; exact zAs; (focus (first | exact ⟨_, Tryz.func28, rfl, rfl⟩)); (focus (with_unfolding_all first | exact h28)); decide) | ((with_reducible first | apply w_ift'); exact zV; exact zU) | ((with_reducible apply w_ret); (repeat refine Red.h ?_); (with_reducible first | apply donef_ret tkW2 | apply doneA_ret tkW2); exact zT; exact zD) | fail
    all_goals try clear tE
    exact ⟨rfl, rfl⟩
theorem ac7_main [GO] (hgo : GoOK) (c : Cf) (f : Fs) (q : List Un) (cl : Int) (x : Ca) (hg : (greatF f.l || great q) = false) (hx : x.d.length ≤ 100) :
    AC Tryz.prog 7 [.agg c.cells, .agg f.cells, .view (unRows q), .int .i64 cl, .agg x.cells] (gH) 1 (fun r H n => r = .ret (.bool true) ∧ H 0 = gH 0) := by
  have h28 : AC Tryz.prog 28 [] (gH) 1 (fun r H' n' => r = .ret (.bool true) ∧ H' = gH ∧ n' = 1) := ac28 hgo gH 1 gH_zero (by decide)
  have h8 := pf8 f q
  rw [hg] at h8
  simp only [Bool.or_eq_false_iff] at hg
  obtain ⟨hl0, hd0⟩ := great_small hg.1
  obtain ⟨hq0, hqd⟩ := great_few3 hg.2
  have hd : ∀ x, x ∈ f.l → x.d.length ≤ 1000000 ∧ x.pins.length ≤ 1000000 := fun x hx => by have := hd0 x hx; omega
  have h11 := ac11 hgo c f q cl x (by omega) hd (by omega) (fun u hu => Nat.le_trans (hqd u hu) (by decide)) (by omega) (gH) 1 gH_zero (by decide)
  refine ac_of_w Tryz.func7 (c := _) rfl (Nat.le_of_ble_eq_true rfl) ?_
  rw [show Tryz.f7.ntmps = 136 from rfl]
  have hqv := unRows_pur q
  have hfv : Pur (.vptr f.cells) := .vptr (fs_pur f)
  have hcv : Pur (.vptr c.cells) := .vptr (cells_pur c)
  have hxv : Pur (.vptr x.cells) := .vptr (ca_pur x)
  have g0 : ((x.d.length : Int) > 100) = False := eq_false (by omega)
  by_cases hE : doE c f q cl x = 0
  · have hD := do_wait hE
    rw [hE] at h11
    generalize doP c f q cl x = D at h11 hD
    simp only [Po.cells, Ca.cells] at h11
    by_cases hDE : D.e = 0
    · obtain ⟨⟨_, w0, w1, cq, up, ft, fl, no⟩, hcq⟩ := hD.1 hDE
      have gE : (D.e != 0) = false := by simp [hDE]
      have a1 : (D.w < 0) = False := eq_false (by omega)
      have a2 : (D.w > (D.q.length : Int)) = False := eq_false (by omega)
      have a3 : ((D.q.length : Int) > c.q) = False := eq_false (by omega)
      have a4 : ((D.q.length : Int) < (q.length : Int)) = False := eq_false (by omega)
      by_cases h1 : x.k = 1
      · have k1 : (x.k == 1) = true := by simp [h1]
        by_cases hw : D.w > 0
        · have b1 : (D.w > 0) = True := eq_true hw
          obtain ⟨a, u, e1, e2, e3, e4⟩ := ft h1 hw
          have hwr : IntKind.i64.wrap (D.w - 1) = (a : Int) := by rw [wrap64 (by omega) (by omega)]; exact e1
          have hr := un_row e2
          have hal := (List.getElem?_eq_some_iff.1 e2).1
          have c0 : (0 ≤ (a : Int)) = True := by simp
          have c1 : ((a : Int) < (D.q.length : Int)) = True := eq_true (by omega)
          have u1 : (u.k == 1) = true := by simp [e3]
          have u2 : (u.p == x.p) = true := by simp [e4]
          have tE := aI uU <| aI Cf.cells.eq_1 <| aI Fs.cells.eq_1 <| aI Ca.cells.eq_1 <| aI Un.cells.eq_1 <| aI g0 <| aI gE <| aI a1 <| aI a2 <| aI a3 <| aI a4 <| aI k1 <| aI b1 <| aI hwr <| aI hr <| aI c0 <| aI c1 <| aI u1 <| aI u2 <| aI byteRows_len <| aI unRows_len <| aI Nat.add_zero <| tfW20.down; repeat' first | (refine Red.h ?_) | ((with_reducible first | apply wz tkW2 | apply wr_z tkW2); exact zZ; decide) | ((with_reducible first | apply wzg tkW2 | apply wr_zg tkW2); exact zU; exact zL; exact zU; exact zZ; decide) | ((with_reducible first | apply w_alloc tkW2); exact zT; decide) | ((with_reducible first | apply w_store tkW2); exact zV; exact zV; exact zS) | ((with_reducible first | apply wcall' | apply wr_call); exact zV; exact zVs; exact zAs; (focus (with_unfolding_all first | exact h8)); decide) | ((with_reducible first | apply wacall'); exact zV; exact zVs; exact zAs; (focus (first | exact ⟨_, Tryz.func11, rfl, rfl⟩ | exact ⟨_, Tryz.func28, rfl, rfl⟩)); (focus (with_unfolding_all first | exact h28 | exact h11)); decide) | ((with_reducible first | apply w_ift'); exact zV; exact zU) | ((with_reducible first | apply w_iff'); exact zV; exact zU) | ((with_reducible apply w_ret); (repeat refine Red.h ?_); (with_reducible first | apply donef_ret tkW2 | apply doneA_ret tkW2); exact zT; exact zD) | fail
          all_goals try clear tE
          exact ⟨rfl, by repeat rw [upd_ne _ _ (by omega)]⟩
        · have b1 : (D.w > 0) = False := eq_false hw
          have tE := aI uU <| aI Cf.cells.eq_1 <| aI Fs.cells.eq_1 <| aI Ca.cells.eq_1 <| aI g0 <| aI gE <| aI a1 <| aI a2 <| aI a3 <| aI a4 <| aI k1 <| aI b1 <| aI byteRows_len <| aI unRows_len <| aI Nat.add_zero <| tfW20.down; repeat' first | (refine Red.h ?_) | ((with_reducible first | apply wz tkW2 | apply wr_z tkW2); exact zZ; decide) | ((with_reducible first | apply wzg tkW2 | apply wr_zg tkW2); exact zU; exact zL; exact zU; exact zZ; decide) | ((with_reducible first | apply wskip' | apply wr_skip); exact zU; exact zL; exact zU; decide) | ((with_reducible first | apply w_alloc tkW2); exact zT; decide) | ((with_reducible first | apply w_store tkW2); exact zV; exact zV; exact zS) | ((with_reducible first | apply wcall' | apply wr_call); exact zV; exact zVs; exact zAs; (focus (with_unfolding_all first | exact h8)); decide) | ((with_reducible first | apply wacall'); exact zV; exact zVs; exact zAs; (focus (first | exact ⟨_, Tryz.func11, rfl, rfl⟩ | exact ⟨_, Tryz.func28, rfl, rfl⟩)); (focus (with_unfolding_all first | exact h28 | exact h11)); decide) | ((with_reducible first | apply w_iff'); exact zV; exact zU) | ((with_reducible apply w_ret); (repeat refine Red.h ?_); (with_reducible first | apply donef_ret tkW2 | apply doneA_ret tkW2); exact zT; exact zD) | fail
          all_goals try clear tE
          exact ⟨rfl, by repeat rw [upd_ne _ _ (by omega)]⟩
      · have k1 : (x.k == 1) = false := by simp [h1]
        by_cases h5 : x.k = 5
        · have k5 : (x.k == 5) = true := by simp [h5]
          have k6 : (x.k != 5) = false := by simp [h5]
          have b2 : (D.w == (D.q.length : Int)) = true := by simp [fl h5]
          have tE := aI uU <| aI Cf.cells.eq_1 <| aI Fs.cells.eq_1 <| aI Ca.cells.eq_1 <| aI g0 <| aI gE <| aI a1 <| aI a2 <| aI a3 <| aI a4 <| aI k1 <| aI k5 <| aI k6 <| aI b2 <| aI byteRows_len <| aI unRows_len <| aI Nat.add_zero <| tfW20.down; repeat' first | (refine Red.h ?_) | ((with_reducible first | apply wz tkW2 | apply wr_z tkW2); exact zZ; decide) | ((with_reducible first | apply wzg tkW2 | apply wr_zg tkW2); exact zU; exact zL; exact zU; exact zZ; decide) | ((with_reducible first | apply wskip' | apply wr_skip); exact zU; exact zL; exact zU; decide) | ((with_reducible first | apply w_alloc tkW2); exact zT; decide) | ((with_reducible first | apply w_store tkW2); exact zV; exact zV; exact zS) | ((with_reducible first | apply wcall' | apply wr_call); exact zV; exact zVs; exact zAs; (focus (with_unfolding_all first | exact h8)); decide) | ((with_reducible first | apply wacall'); exact zV; exact zVs; exact zAs; (focus (first | exact ⟨_, Tryz.func11, rfl, rfl⟩ | exact ⟨_, Tryz.func28, rfl, rfl⟩)); (focus (with_unfolding_all first | exact h28 | exact h11)); decide) | ((with_reducible first | apply w_iff'); exact zV; exact zU) | ((with_reducible apply w_ret); (repeat refine Red.h ?_); (with_reducible first | apply donef_ret tkW2 | apply doneA_ret tkW2); exact zT; exact zD) | fail
          all_goals try clear tE
          exact ⟨rfl, by repeat rw [upd_ne _ _ (by omega)]⟩
        · have k5 : (x.k == 5) = false := by simp [h5]
          have k6 : (x.k != 5) = true := by simp [h5]
          have b2 : (D.w == 0) = true := by simp [no h1 h5]
          have tE := aI uU <| aI Cf.cells.eq_1 <| aI Fs.cells.eq_1 <| aI Ca.cells.eq_1 <| aI g0 <| aI gE <| aI a1 <| aI a2 <| aI a3 <| aI a4 <| aI k1 <| aI k5 <| aI k6 <| aI b2 <| aI byteRows_len <| aI unRows_len <| aI Nat.add_zero <| tfW20.down; repeat' first | (refine Red.h ?_) | ((with_reducible first | apply wz tkW2 | apply wr_z tkW2); exact zZ; decide) | ((with_reducible first | apply wzg tkW2 | apply wr_zg tkW2); exact zU; exact zL; exact zU; exact zZ; decide) | ((with_reducible first | apply wskip' | apply wr_skip); exact zU; exact zL; exact zU; decide) | ((with_reducible first | apply w_alloc tkW2); exact zT; decide) | ((with_reducible first | apply w_store tkW2); exact zV; exact zV; exact zS) | ((with_reducible first | apply wcall' | apply wr_call); exact zV; exact zVs; exact zAs; (focus (with_unfolding_all first | exact h8)); decide) | ((with_reducible first | apply wacall'); exact zV; exact zVs; exact zAs; (focus (first | exact ⟨_, Tryz.func11, rfl, rfl⟩ | exact ⟨_, Tryz.func28, rfl, rfl⟩)); (focus (with_unfolding_all first | exact h28 | exact h11)); decide) | ((with_reducible first | apply w_iff'); exact zV; exact zU) | ((with_reducible apply w_ret); (repeat refine Red.h ?_); (with_reducible first | apply donef_ret tkW2 | apply doneA_ret tkW2); exact zT; exact zD) | fail
          all_goals try clear tE
          exact ⟨rfl, by repeat rw [upd_ne _ _ (by omega)]⟩
    · have gE : (D.e != 0) = true := by simp [hDE]
      have b2 : (D.w == 0) = true := by simp [hD.2 hDE]
      have tE := aI uU <| aI Cf.cells.eq_1 <| aI Fs.cells.eq_1 <| aI Ca.cells.eq_1 <| aI g0 <| aI gE <| aI b2 <| aI byteRows_len <| aI unRows_len <| aI Nat.add_zero <| tfW20.down; repeat' first | (refine Red.h ?_) | ((with_reducible first | apply wz tkW2 | apply wr_z tkW2); exact zZ; decide) | ((with_reducible first | apply wzg tkW2 | apply wr_zg tkW2); exact zU; exact zL; exact zU; exact zZ; decide) | ((with_reducible first | apply w_alloc tkW2); exact zT; decide) | ((with_reducible first | apply w_store tkW2); exact zV; exact zV; exact zS) | ((with_reducible first | apply wcall' | apply wr_call); exact zV; exact zVs; exact zAs; (focus (with_unfolding_all first | exact h8)); decide) | ((with_reducible first | apply wacall'); exact zV; exact zVs; exact zAs; (focus (first | exact ⟨_, Tryz.func11, rfl, rfl⟩ | exact ⟨_, Tryz.func28, rfl, rfl⟩)); (focus (with_unfolding_all first | exact h28 | exact h11)); decide) | ((with_reducible first | apply w_ift'); exact zV; exact zU) | ((with_reducible first | apply w_iff'); exact zV; exact zU) | ((with_reducible apply w_ret); (repeat refine Red.h ?_); (with_reducible first | apply donef_ret tkW2 | apply doneA_ret tkW2); exact zT; exact zD) | fail
      all_goals try clear tE
      exact ⟨rfl, by repeat rw [upd_ne _ _ (by omega)]⟩
  · have hP : doP c f q cl x = p0 ⟨[], 0⟩ [] 0 := by rw [doP, if_neg hE]
    rw [hP] at h11
    have gE : (doE c f q cl x != 0) = true := by simp [hE]
    simp only [Po.cells, Ca.cells, p0] at h11
    have tE := aI uU <| aI Cf.cells.eq_1 <| aI Fs.cells.eq_1 <| aI Ca.cells.eq_1 <| aI g0 <| aI gE <| aI byteRows_len <| aI unRows_len <| aI Nat.add_zero <| tfW20.down; repeat' first | (refine Red.h ?_) | ((with_reducible first | apply wz tkW2 | apply wr_z tkW2); exact zZ; decide) | ((with_reducible first | apply wzg tkW2 | apply wr_zg tkW2); exact zU; exact zL; exact zU; exact zZ; decide) | ((with_reducible first | apply wskip' | apply wr_skip); exact zU; exact zL; exact zU; decide) | ((with_reducible first | apply w_alloc tkW2); exact zT; decide) | ((with_reducible first | apply w_store tkW2); exact zV; exact zV; exact zS) | ((with_reducible first | apply wcall' | apply wr_call); exact zV; exact zVs; exact zAs; (focus (with_unfolding_all first | exact h8)); decide) | ((with_reducible first | apply wacall'); exact zV; exact zVs; exact zAs; (focus (first | exact ⟨_, Tryz.func11, rfl, rfl⟩ | exact ⟨_, Tryz.func28, rfl, rfl⟩)); (focus (with_unfolding_all first | exact h28 | exact h11)); decide) | ((with_reducible first | apply w_ift'); exact zV; exact zU) | ((with_reducible first | apply w_iff'); exact zV; exact zU) | ((with_reducible apply w_ret); (repeat refine Red.h ?_); (with_reducible first | apply donef_ret tkW2 | apply doneA_ret tkW2); exact zT; exact zD) | fail
    all_goals try clear tE
    exact ⟨rfl, by repeat rw [upd_ne _ _ (by omega)]⟩
theorem ac7 [GO] (hgo : GoOK) (c : Cf) (f : Fs) (q : List Un) (cl : Int) (x : Ca) :
    AC Tryz.prog 7 [.agg c.cells, .agg f.cells, .view (unRows q), .int .i64 cl, .agg x.cells] (gH) 1 (fun r H n => r = .ret (.bool true) ∧ H 0 = gH 0) := by
  by_cases hg : (greatF f.l || great q) = true
  · exact ac7_early hgo c f q cl x (.inl hg)
  · have hg : (greatF f.l || great q) = false := by simpa using hg
    by_cases hx : x.d.length > 100
    · exact ac7_early hgo c f q cl x (.inr hx)
    · exact ac7_main hgo c f q cl x hg (by omega)
end Go.Proofs.YtlmighkbeacjnaaGreatDoor

