/- PoolModel: the law computes true, the package variable given. -/
import Derived.Test.YtlmighkbeacjnaaGreatDoorLm5
import Derived.Test.YtlmighkbeacjnaaGreatDoorP6
import Derived.Test.YtlmighkbeacjnaaGreatDoorYe
import Derived.Test.YtlmighkbeacjnaaGreatDoorE3
import Derived.Test.YtlmighkbeacjnaaGreatDoorAL
open Go Go.Lg
set_option linter.unusedSimpArgs false
set_option linter.unusedVariables false
set_option maxHeartbeats 8000000
set_option maxRecDepth 20000
namespace Go.Proofs.YtlmighkbeacjnaaGreatDoor
theorem tkM1 : TOK Tryz.prog (tyOf Tryz.prog) := tok Tryz.prog
def tfM10 := PLift.up (aI ty3 <| aI ty4 <| aI ty5 <| aI ty23 <| aI ty24 <| aI ty26 <| aI ty27 <| aI ty28 <| aI ty30 <| aI ty34 <| aI ty36 <| aI ty58 <| aI ty60 <| aI ty72 <| aI ty74 <| Tryz.results5)
structure DoLaw (c : Cf) (f : Fs) (q : List Un) (base : List (List UInt8)) (x : Ca) (D : Po) : Prop where
  s : Sound c D.f D.q base
  ct : ∀ p : Int, content D.f D.q base p = if D.e = 0 ∧ x.k = 3 ∧ x.p = p then x.d else content f q base p
  rd : D.e = 0 → x.k = 2 → D.d = content f q base x.p
  no : D.e ≠ 0 → D.f = f ∧ D.q = q ∧ D.w = 0 ∧ D.s = false
theorem do_law {c : Cf} {f : Fs} {q : List Un} {base : List (List UInt8)} {cl : Int} {x : Ca} (hs : Sound c f q base) (he : doE c f q cl x = 0) : DoLaw c f q base x (doP c f q cl x) := by
  obtain ⟨e1, e2, e3, e4, e5, e6, e7⟩ := doE_parts he
  rw [doP, if_pos he]
  have hk : 1 ≤ x.k ∧ x.k ≤ 6 := by
    by_cases h : 1 ≤ x.k ∧ x.k ≤ 6 ∧ (x.d.length : Int) = (if x.k = 3 then c.z else 0)
    · exact ⟨h.1, h.2.1⟩
    · unfold askE at e4
      rw [if_neg h] at e4
      split at e4 <;> cases e4
  unfold doR
  by_cases h : (callR c cl (p0 f q 0) x).2 = 0
  · rw [if_pos h]
    have := call_model hs hk ⟨e5, e6⟩ h
    exact ⟨this.s, fun p => by rw [this.ct]; simp only [this.e, true_and], fun _ hk2 => this.rd hk2, fun hn => absurd this.e hn⟩
  · rw [if_neg h]
    exact ⟨hs, fun p => by rw [if_neg (fun hh => h hh.1)]; rfl, fun hh => absurd hh h, fun _ => ⟨rfl, rfl, rfl, rfl⟩⟩
theorem sound_small {c : Cf} {f : Fs} {q : List Un} {base : List (List UInt8)} (hs : Sound c f q base) : f.l.length ≤ 1000000 ∧ (∀ x, x ∈ f.l → x.pins.length ≤ 1000000) ∧ q.length ≤ 1000000 := by
  obtain ⟨k1, k2, k3, k4, k5⟩ := okF_parts hs.okf
  have hg := good_cl k1
  have hq := cf_q k1
  have hfr : c.fr ≤ 8 := by simp [Cf.good, Cf.ok, Cf.spans, inB] at k1; omega
  refine ⟨by omega, fun x hx => ?_, ?_⟩
  · obtain ⟨i, hi, rfl⟩ := List.getElem_of_mem hx
    have := (may_pins (okF_may hs.okf (List.getElem?_eq_getElem hi))).1
    omega
  · have := hs.okq
    simp only [qok, Bool.and_eq_true, decide_eq_true_eq] at this
    omega
theorem ac5_early [GO] (hgo : GoOK) (c : Cf) (f : Fs) (q : List Un) (base : List (List UInt8)) (cl : Int) (x : Ca) (h : (greatF f.l || great q) = true ∨ x.d.length > 100 ∨ base.length > 64 ∨ ((greatF f.l || great q) = false ∧ x.d.length ≤ 100 ∧ base.length ≤ 64 ∧ ¬ Sound c f q base)) (h29 : base.length ≤ 64 → (greatF f.l || great q) = false → PF Tryz.prog 29 [.agg c.cells, .agg f.cells, .view (unRows q), .view (bbRows base)] (fun r => r = .bool (sB c f q base))) :
    AC Tryz.prog 5 [.agg c.cells, .agg f.cells, .view (unRows q), .view (bbRows base), .int .i64 cl, .agg x.cells] (gH) 1 (fun r H n => r = .ret (.bool true) ∧ H 0 = gH 0) := by
  have h28 : AC Tryz.prog 28 [] (gH) 1 (fun r H' n' => r = .ret (.bool true) ∧ H' = gH ∧ n' = 1) := ac28 hgo gH 1 gH_zero (by decide)
  have h8 := pf8 f q
  refine ac_of_w Tryz.func5 (c := _) rfl (Nat.le_of_ble_eq_true rfl) ?_
  rw [show Tryz.f5.ntmps = 156 from rfl]
  have hqv := unRows_pur q
  have hbv := bbRows_pur base
  have hfv : Pur (.vptr f.cells) := .vptr (fs_pur f)
  have hcv : Pur (.vptr c.cells) := .vptr (cells_pur c)
  have hxv : Pur (.vptr x.cells) := .vptr (ca_pur x)
  cases hg : (greatF f.l || great q) with
  | true =>
    rw [hg] at h8
    have tE := aI uU <| aI Cf.cells.eq_1 <| aI Fs.cells.eq_1 <| aI Ca.cells.eq_1 <| tfM10.down; repeat' first | (refine Red.h ?_) | ((with_reducible first | apply wz tkM1 | apply wr_z tkM1); exact zZ; decide) | ((with_reducible first | apply wskip' | apply wr_skip); exact zU; exact zL; exact zU; decide) | ((with_reducible first | apply wcall' | apply wr_call); exact zV; exact zVs; exact zAs; (focus (with_unfolding_all first | exact h8)); decide) | ((with_reducible first | apply wacall'); exact zV; exact zVs; exact zAs; (focus (first | exact ⟨_, Tryz.func28, rfl, rfl⟩)); (focus (with_unfolding_all first | exact h28)); decide) | ((with_reducible first | apply w_ift'); exact zV; exact zU) | ((with_reducible apply w_ret); (repeat refine Red.h ?_); (with_reducible first | apply donef_ret tkM1 | apply doneA_ret tkM1); exact zT; exact zD) | fail
    all_goals try clear tE
    exact ⟨rfl, rfl⟩
  | false =>
    rw [hg] at h8
    by_cases hx : x.d.length > 100
    · have g0 : ((x.d.length : Int) > 100) = True := eq_true (by omega)
      have tE := aI uU <| aI Cf.cells.eq_1 <| aI Fs.cells.eq_1 <| aI Ca.cells.eq_1 <| aI g0 <| aI byteRows_len <| tfM10.down; repeat' first | (refine Red.h ?_) | ((with_reducible first | apply wz tkM1 | apply wr_z tkM1); exact zZ; decide) | ((with_reducible first | apply wzg tkM1 | apply wr_zg tkM1); exact zU; exact zL; exact zU; exact zZ; decide) | ((with_reducible first | apply wskip' | apply wr_skip); exact zU; exact zL; exact zU; decide) | ((with_reducible first | apply wcall' | apply wr_call); exact zV; exact zVs; exact zAs; (focus (with_unfolding_all first | exact h8)); decide) | ((with_reducible first | apply wacall'); exact zV; exact zVs; exact zAs; (focus (first | exact ⟨_, Tryz.func28, rfl, rfl⟩)); (focus (with_unfolding_all first | exact h28)); decide) | ((with_reducible first | apply w_ift'); exact zV; exact zU) | ((with_reducible apply w_ret); (repeat refine Red.h ?_); (with_reducible first | apply donef_ret tkM1 | apply doneA_ret tkM1); exact zT; exact zD) | fail
      all_goals try clear tE
      exact ⟨rfl, rfl⟩
    · have g0 : ((x.d.length : Int) > 100) = False := eq_false (by omega)
      by_cases hb : base.length > 64
      · have g1 : ((base.length : Int) > 64) = True := eq_true (by omega)
        have tE := aI uU <| aI Cf.cells.eq_1 <| aI Fs.cells.eq_1 <| aI Ca.cells.eq_1 <| aI g0 <| aI g1 <| aI byteRows_len <| aI bbRows_len <| tfM10.down; repeat' first | (refine Red.h ?_) | ((with_reducible first | apply wz tkM1 | apply wr_z tkM1); exact zZ; decide) | ((with_reducible first | apply wzg tkM1 | apply wr_zg tkM1); exact zU; exact zL; exact zU; exact zZ; decide) | ((with_reducible first | apply wskip' | apply wr_skip); exact zU; exact zL; exact zU; decide) | ((with_reducible first | apply wcall' | apply wr_call); exact zV; exact zVs; exact zAs; (focus (with_unfolding_all first | exact h8)); decide) | ((with_reducible first | apply wacall'); exact zV; exact zVs; exact zAs; (focus (first | exact ⟨_, Tryz.func28, rfl, rfl⟩)); (focus (with_unfolding_all first | exact h28)); decide) | ((with_reducible first | apply w_ift'); exact zV; exact zU) | ((with_reducible apply w_ret); (repeat refine Red.h ?_); (with_reducible first | apply donef_ret tkM1 | apply doneA_ret tkM1); exact zT; exact zD) | fail
        all_goals try clear tE
        exact ⟨rfl, rfl⟩
      · have g1 : ((base.length : Int) > 64) = False := eq_false (by omega)
        have hns : ¬ Sound c f q base := by
          rcases h with h | h | h | h
          · rw [hg] at h; cases h
          · exact absurd h hx
          · exact absurd h hb
          · exact h.2.2.2
        have hsf := sB_false hns
        have h29 := h29 (by omega) hg
        rw [hsf] at h29
        have tE := aI uU <| aI Cf.cells.eq_1 <| aI Fs.cells.eq_1 <| aI Ca.cells.eq_1 <| aI g0 <| aI g1 <| aI byteRows_len <| aI bbRows_len <| tfM10.down; repeat' first | (refine Red.h ?_) | ((with_reducible first | apply wz tkM1 | apply wr_z tkM1); exact zZ; decide) | ((with_reducible first | apply wzg tkM1 | apply wr_zg tkM1); exact zU; exact zL; exact zU; exact zZ; decide) | ((with_reducible first | apply wcall' | apply wr_call); exact zV; exact zVs; exact zAs; (focus (with_unfolding_all first | exact h8 | exact h29)); decide) | ((with_reducible first | apply wcallg' | apply wr_callg); exact zU; exact zL; exact zU; exact zV; exact zVs; exact zAs; (focus (with_unfolding_all first | exact h8 | exact h29)); decide) | ((with_reducible first | apply wacall'); exact zV; exact zVs; exact zAs; (focus (first | exact ⟨_, Tryz.func28, rfl, rfl⟩)); (focus (with_unfolding_all first | exact h28)); decide) | ((with_reducible first | apply w_ift'); exact zV; exact zU) | ((with_reducible apply w_ret); (repeat refine Red.h ?_); (with_reducible first | apply donef_ret tkM1 | apply doneA_ret tkM1); exact zT; exact zD) | fail
        all_goals try clear tE
        exact ⟨rfl, rfl⟩
end Go.Proofs.YtlmighkbeacjnaaGreatDoor

