/- FramesClock: the law computes true where the clock takes one. -/
import Derived.Test.YtlmighkbeacjnaaF11
open Go Go.Lg
set_option linter.unusedSimpArgs false
set_option linter.unusedVariables false
set_option maxHeartbeats 4000000
set_option maxRecDepth 20000
namespace Go.Proofs.Ytlmighkbeacjnaa
/-- What the law's last loop holds. -/
structure LcI (f : Fs) (s : List Fr) (hand : Int) (b : Nat) (m : List (AV × AV)) (t : Nat) (i : Nat) (H : Heap) : Prop where
  h0 : H 0 = some (.cells [.view (frRows s), .int .i64 hand] 26)
  ht : H t = some (.cells [.slice b 0 f.l.length none 6, .int .i64 f.h] 26)
  hb : H b = some (.cells (oRows (mixed_ f.l s i) m).flatten 37)
  own : OwnABs H (fun j => 1 ≤ j ∧ j ≠ b ∧ j < t) f.l m
theorem pf3_some (c : Cf) (f : Fs) (hg : greatF f.l = false) (hok : okF c f = true) (i0 : Nat) (hv : vic f.l f.h.toNat = some i0) : PF Try.prog 3 [.agg c.cells, .agg f.cells] (fun r => r = .bool true) := by
  obtain ⟨hl, hd⟩ := great_small hg
  obtain ⟨k1, k2, k3, k4, k5⟩ := okF_parts hok
  have hm := okL_may k5
  have hh1 : f.h.toNat < f.l.length := by omega
  obtain ⟨t1, ⟨x, hx, hfx, hrfx⟩, ⟨y, hy, hyr⟩⟩ := vic_take hm hh1 hv
  have hcl : cat f.h.toNat f.l.length i0 < f.l.length := cat_lt (by omega)
  have hturn : ∀ {j : Nat} {u : Fr}, f.l[j]? = some u → ∃ w, (swept f.l f.h.toNat i0)[j]? = some w ∧ (freeF u = false → w.rf = u.rf) ∧ (w.rf = true → u.rf = true) ∧ { w with rf := u.rf } = u := fun hu => swept_turn (hm _ (List.mem_of_getElem? hu)) hu
  have hS : (swept f.l f.h.toNat i0).length = f.l.length := swept_len _ _ _
  have hokx := okF_swept hok f.h.toNat i0 ((cat f.h.toNat f.l.length i0 + 1) % f.l.length) (Nat.mod_lt _ (by omega))
  have hSd : ∀ x, x ∈ swept f.l f.h.toNat i0 → x.d.length ≤ 1000000 ∧ x.pins.length ≤ 1000000 := fun x hx => by
    obtain ⟨j, hj, rfl⟩ := List.getElem_of_mem hx
    obtain ⟨z, hz, z1, z2⟩ := swept_pins (h := f.h.toNat) (i := i0) (List.getElem?_eq_getElem (show j < f.l.length by omega))
    rw [List.getElem?_eq_getElem hj] at hz; cases hz
    rw [z1, z2]
    have := hd _ (List.getElem_mem (show j < f.l.length by omega)); omega
  have ev : eF c f = 0 := by simp [eF, hok]
  have h11 := pf11 c f (by omega) (fun x hx => by have := (hd x hx).2; omega)
  have h12 : PF Try.prog 12 [.agg c.cells, .agg f.cells] (fun r => r = .tuple [.agg [.view (frRows (swept f.l f.h.toNat i0)), .int .i64 (((cat f.h.toNat f.l.length i0 + 1) % f.l.length : Nat) : Int)], .int .i64 ((cat f.h.toNat f.l.length i0 : Nat) : Int), .int .i64 0]) := by
    have := (nf12 c f (by omega) (fun x hx => by have := hd x hx; omega)).pf
    simpa [vicF, vicA, vicE, hok, hv, Fs.cells] using this
  generalize hat : cat f.h.toNat f.l.length i0 = at_ at *
  generalize swept f.l f.h.toNat i0 = s at *
  generalize hhand : (at_ + 1) % f.l.length = hand at *
  have h14 := ac14 ⟨s, (hand : Int)⟩ (by show s.length ≤ _; omega) hSd
  have h11x := pf11 c ⟨s, (hand : Int)⟩ (by show s.length ≤ _; omega) (fun x hx => (hSd x hx).2)
  have evx : eF c ⟨s, (hand : Int)⟩ = 0 := by simp [eF, hokx]
  have h15 := pf15 f f (by omega) (fun x hx => by have := (hd x hx).2; omega)
  have hsame : sameF f f = true := by simp [sameF]
  refine pf_of_w0 Try.func3 (c := _) rfl rfl (Nat.le_of_ble_eq_true rfl) (args_2 (cf_pur c) (fsa_pur f)) ?_
  rw [show Try.f3.ntmps = 204 from rfl]
  have hcv : Pur (.vptr c.cells) := .vptr (cells_pur c)
  have hfv : Pur (.vptr f.cells) := .vptr (fs_pur f)
  have hsv := frRows_pur s
  have tE := And.intro (@upd_upd AV) <| And.intro (@upd_upd (Option Blk)) <| And.intro Cf.cells.eq_1 <| And.intro Fs.cells.eq_1 <| And.intro hg <| And.intro ev <| And.intro ty3 <| And.intro ty4 <| And.intro ty5 <| And.intro ty23 <| And.intro ty24 <| And.intro ty26 <| And.intro ty29 <| And.intro ty34 <| And.intro ty35 <| And.intro ty37 <| Try.results3; repeat' first | ((with_reducible first | apply w_seq | apply w_region | apply wl_nil | apply wr_nil | apply wr_nilA | apply wr_nilE | apply go_normal | apply go_ret | apply go_exit | apply blk_normal | apply blk_ret | apply blk_here | apply w_block | apply w_skip | apply w_exit | apply w_label)) | ((with_reducible first | apply wz (tok Try.prog) | apply wr_z (tok Try.prog)); exact zZ; decide) | ((with_reducible first | apply wzg (tok Try.prog) | apply wr_zg (tok Try.prog)); exact zU; exact zL; exact zU; exact zZ; decide) | ((with_reducible first | apply w_alloc (tok Try.prog)); exact zT; decide) | ((with_reducible first | apply w_store (tok Try.prog)); exact zV; exact zV; exact zS) | ((with_reducible first | apply wcall' | apply wr_call); exact zV; exact zVs; exact zAs; (focus (with_unfolding_all first | exact pf9 | exact pf10 f | exact h11 | exact h12)); decide) | ((with_reducible first | apply wcallg' | apply wr_callg); exact zU; exact zL; exact zU; exact zV; exact zVs; exact zAs; (focus (with_unfolding_all first | exact pf9 | exact pf10 f | exact h11 | exact h12)); decide) | ((with_reducible first | apply w_iff'); exact zV; exact zU) | fail
  all_goals try clear tE
  refine w_loopS (S := Nat) (fun i => [(2, .vptr c.cells), (3, .vptr f.cells), (5, .bool true), (6, .ptr 0 0), (7, .int .i64 (at_ : Int)), (8, .int .i64 0), (9, .bool ((f.l.take i).any freeF)), (10, .bool (allRf (f.l.take i))), (11, .int .i64 (i : Int))]) (fun _ => [some (.cells [.view (frRows s), .int .i64 (hand : Int)] 26)]) [] (fun i => i ≤ f.l.length) (fun i => f.l.length - i) 0 ?_ (Nat.zero_le _) ?_
  · have z1 : (f.l.take 0).any freeF = false := rfl
    have z2 : allRf (f.l.take 0) = true := rfl
    rw [z1, z2]
    (have tu0 : Pur _ := hcv; have tu1 : Pur _ := hfv; have tu2 : Pur _ := hsv; have tE := And.intro (@upd_upd AV) <| @upd_upd (Option Blk); exact kcanS [0])
  · intro i hi
    simp only [St.ofS, List.length_nil, List.length_cons, Nat.zero_add]
    have hw : IntKind.i64.wrap ((i : Int) + 1) = ((i + 1 : Nat) : Int) := by rw [wrap64 (by omega) (by omega)]; rfl
    by_cases e : i < f.l.length
    · have g1 : ((i : Int) < (f.l.length : Int)) = True := by simp; omega
      have g0 : (0 ≤ (i : Int)) = True := by simp
      obtain ⟨u, hu⟩ : ∃ u, f.l[i]? = some u := ⟨f.l[i], List.getElem?_eq_getElem e⟩
      have hr := fr_row hu
      have htk : f.l.take (i + 1) = f.l.take i ++ [u] := by rw [List.take_add_one, hu]; rfl
      have h13 := pf13 u (by have := (hd u (List.mem_of_getElem? hu)).2; omega)
      have z1 : (f.l.take (i + 1)).any freeF = ((f.l.take i).any freeF || freeF u) := by rw [htk]; simp
      have z2 : allRf (f.l.take (i + 1)) = (allRf (f.l.take i) && (!freeF u || u.rf)) := by rw [htk]; simp [allRf]
      cases hf : freeF u with
      | true =>
        cases ha : allRf (f.l.take i) with
        | true =>
          have tE := And.intro (@upd_upd AV) <| And.intro (@upd_upd (Option Blk)) <| And.intro g1 <| And.intro g0 <| And.intro hr <| And.intro hw <| And.intro hf <| And.intro Fs.cells.eq_1 <| And.intro Fr.cells.eq_1 <| And.intro frRows_len <| And.intro ty3 <| And.intro ty4 <| And.intro ty5 <| And.intro ty23 <| And.intro ty24 <| And.intro ty26 <| And.intro ty29 <| And.intro ty34 <| And.intro ty35 <| And.intro ty37 <| Try.results3; repeat' first | ((with_reducible first | apply w_seq | apply w_region | apply wl_nil | apply wr_nil | apply wr_nilA | apply wr_nilE | apply go_normal | apply go_ret | apply go_exit | apply blk_normal | apply blk_ret | apply blk_here | apply w_block | apply w_skip | apply w_exit | apply w_label)) | ((with_reducible first | apply wz (tok Try.prog) | apply wr_z (tok Try.prog)); exact zZ; decide) | ((with_reducible first | apply wzg (tok Try.prog) | apply wr_zg (tok Try.prog)); exact zU; exact zL; exact zU; exact zZ; decide) | ((with_reducible first | apply wcall' | apply wr_call); exact zV; exact zVs; exact zAs; (focus (with_unfolding_all first | exact h13)); decide) | ((with_reducible first | apply w_ift'); exact zV; exact zU) | fail
          all_goals try clear tE
          refine ⟨i + 1, by omega, by omega, ?_⟩
          rw [z1, z2, hf, ha, Bool.or_true, Bool.true_and, Bool.not_true, Bool.false_or]
          (have tu0 : Pur _ := hcv; have tu1 : Pur _ := hfv; have tu2 : Pur _ := hsv; have tE := And.intro (@upd_upd AV) <| @upd_upd (Option Blk); exact kcanS [0])
        | false =>
          have tE := And.intro (@upd_upd AV) <| And.intro (@upd_upd (Option Blk)) <| And.intro g1 <| And.intro g0 <| And.intro hr <| And.intro hw <| And.intro hf <| And.intro Fs.cells.eq_1 <| And.intro Fr.cells.eq_1 <| And.intro frRows_len <| And.intro ty3 <| And.intro ty4 <| And.intro ty5 <| And.intro ty23 <| And.intro ty24 <| And.intro ty26 <| And.intro ty29 <| And.intro ty34 <| And.intro ty35 <| And.intro ty37 <| Try.results3; repeat' first | ((with_reducible first | apply w_seq | apply w_region | apply wl_nil | apply wr_nil | apply wr_nilA | apply wr_nilE | apply go_normal | apply go_ret | apply go_exit | apply blk_normal | apply blk_ret | apply blk_here | apply w_block | apply w_skip | apply w_exit | apply w_label)) | ((with_reducible first | apply wz (tok Try.prog) | apply wr_z (tok Try.prog)); exact zZ; decide) | ((with_reducible first | apply wskip' | apply wr_skip); exact zU; exact zL; exact zU; decide) | ((with_reducible first | apply wcall' | apply wr_call); exact zV; exact zVs; exact zAs; (focus (with_unfolding_all first | exact h13)); decide) | ((with_reducible first | apply w_ift'); exact zV; exact zU) | fail
          all_goals try clear tE
          refine ⟨i + 1, by omega, by omega, ?_⟩
          rw [z1, z2, hf, ha, Bool.or_true, Bool.false_and]
          (have tu0 : Pur _ := hcv; have tu1 : Pur _ := hfv; have tu2 : Pur _ := hsv; have tE := And.intro (@upd_upd AV) <| @upd_upd (Option Blk); exact kcanS [0])
      | false =>
        have tE := And.intro (@upd_upd AV) <| And.intro (@upd_upd (Option Blk)) <| And.intro g1 <| And.intro g0 <| And.intro hr <| And.intro hw <| And.intro hf <| And.intro Fs.cells.eq_1 <| And.intro Fr.cells.eq_1 <| And.intro frRows_len <| And.intro ty3 <| And.intro ty4 <| And.intro ty5 <| And.intro ty23 <| And.intro ty24 <| And.intro ty26 <| And.intro ty29 <| And.intro ty34 <| And.intro ty35 <| And.intro ty37 <| Try.results3; repeat' first | ((with_reducible first | apply w_seq | apply w_region | apply wl_nil | apply wr_nil | apply wr_nilA | apply wr_nilE | apply go_normal | apply go_ret | apply go_exit | apply blk_normal | apply blk_ret | apply blk_here | apply w_block | apply w_skip | apply w_exit | apply w_label)) | ((with_reducible first | apply wz (tok Try.prog) | apply wr_z (tok Try.prog)); exact zZ; decide) | ((with_reducible first | apply wcall' | apply wr_call); exact zV; exact zVs; exact zAs; (focus (with_unfolding_all first | exact h13)); decide) | ((with_reducible first | apply w_ift'); exact zV; exact zU) | ((with_reducible first | apply w_iff'); exact zV; exact zU) | fail
        all_goals try clear tE
        refine ⟨i + 1, by omega, by omega, ?_⟩
        rw [z1, z2, hf, Bool.or_false, Bool.not_false, Bool.true_or, Bool.and_true]
        (have tu0 : Pur _ := hcv; have tu1 : Pur _ := hfv; have tu2 : Pur _ := hsv; have tE := And.intro (@upd_upd AV) <| @upd_upd (Option Blk); exact kcanS [0])
    · have g1 : ((i : Int) < (f.l.length : Int)) = False := by simp; omega
      have e2 : f.l.take i = f.l := List.take_of_length_le (by omega)
      rw [e2, t1]
      have hr := fr_row hx
      have hrs := fr_row hy
      have a0 : ((at_ : Int) < 0) = False := eq_false (by omega)
      have a1 : ((at_ : Int) ≥ (f.l.length : Int)) = False := eq_false (by omega)
      have a2 : (0 ≤ (at_ : Int)) = True := by simp
      have a3 : ((at_ : Int) < (f.l.length : Int)) = True := by simp; omega
      have a4 : ((at_ : Int) < (s.length : Int)) = True := by simp; omega
      have hw1 : IntKind.i64.wrap ((at_ : Int) + 1) = ((at_ + 1 : Nat) : Int) := by rw [wrap64 (by omega) (by omega)]; rfl
      have hne : ((f.l.length : Int) = 0) = False := eq_false (by omega)
      have hrem : Int.tmod ((at_ + 1 : Nat) : Int) (f.l.length : Int) = (hand : Int) := by rw [← hhand]; rfl
      have hsl : ((s.length : Int) != (f.l.length : Int)) = false := by simp [hS]
      have h13 := pf13 x (by have := (hd x (List.mem_of_getElem? hx)).2; omega)
      have key : x.rf = true → allRf f.l = true := fun hr => by
        simp only [allRf, List.all_eq_true]
        intro z hz
        cases hfz : freeF z with
        | true => simp [hrfx hr z hz hfz]
        | false => rfl
      cases hxr : x.rf with
      | true =>
        have ha := key hxr
        rw [Fr.cells, hxr] at h13
        have tE := And.intro (@upd_upd AV) <| And.intro (@upd_upd (Option Blk)) <| And.intro g1 <| And.intro hr <| And.intro hrs <| And.intro a0 <| And.intro a1 <| And.intro a2 <| And.intro a3 <| And.intro a4 <| And.intro hw1 <| And.intro hne <| And.intro hrem <| And.intro hsl <| And.intro hfx <| And.intro hxr <| And.intro hyr <| And.intro ha <| And.intro Fs.cells.eq_1 <| And.intro Fr.cells.eq_1 <| And.intro frRows_len <| And.intro ty3 <| And.intro ty4 <| And.intro ty5 <| And.intro ty23 <| And.intro ty24 <| And.intro ty26 <| And.intro ty29 <| And.intro ty34 <| And.intro ty35 <| And.intro ty37 <| Try.results3; repeat' first | ((with_reducible first | apply w_seq | apply w_region | apply wl_nil | apply wr_nil | apply wr_nilA | apply wr_nilE | apply go_normal | apply go_ret | apply go_exit | apply blk_normal | apply blk_ret | apply blk_here | apply w_block | apply w_skip | apply w_exit | apply w_label)) | ((with_reducible apply w_live (lvAt [[0, 1], [2, 3], [2, 3, 5], [5], [2, 3, 5], [2, 3, 5, 6, 7, 8], [2, 3, 5, 6, 7, 8, 9, 10], [2, 3, 5, 6, 7, 8, 9, 10, 11], [2, 3, 5, 6, 7, 8, 9, 10, 11], [2, 3, 5, 6, 7, 8, 9, 10, 11], [2, 3, 5, 6, 7, 8, 10, 11], [2, 3, 5, 6, 7, 8, 9, 10, 11], [2, 3, 5, 6, 7, 8, 9, 10], [5, 8, 9], [2, 3, 5, 6, 7, 9, 10], [], [2, 3, 5, 6], [2, 3, 5, 6, 12], [2, 3, 5, 6, 12], [2, 3, 5, 6, 12, 13], [2, 3, 5, 6, 12, 13], [2, 3, 5, 6, 12, 13], [], [2, 3, 5, 6, 12, 13], [2, 3, 5, 6, 12]])); (focus (simp only [lvAt_zero, lvAt_succ]; rfl)); exact zLv) | ((with_reducible first | apply wz (tok Try.prog) | apply wr_z (tok Try.prog)); exact zZ; decide) | ((with_reducible first | apply wzg (tok Try.prog) | apply wr_zg (tok Try.prog)); exact zU; exact zL; exact zU; exact zZ; decide) | ((with_reducible first | apply wcallg' | apply wr_callg); exact zU; exact zL; exact zU; exact zV; exact zVs; exact zAs; (focus (with_unfolding_all first | exact h13)); decide) | ((with_reducible first | apply w_iff'); exact zV; exact zU) | ((with_reducible first | apply w_draw0 mixed); (focus (decide +kernel))) | fail
        all_goals try clear tE
        (have tE := And.intro (@upd_upd AV) <| And.intro (@upd_upd (Option Blk)) <| Fs.cells.eq_1; (with_reducible apply wacall); exact zV; exact zVs; exact zAs; exact cal14; (focus (with_unfolding_all exact h14 _ _)); decide; clear tE)
        rintro r H' k0 ⟨hn', hold, htop, a, rfl, hown⟩
        have hk0 : 1 ≤ k0 := hn'
        have e0 : H' 0 = some (.cells [.view (frRows s), .int .i64 (hand : Int)] 26) := hold 0 _ rfl
        rcases hown with ⟨hz, _⟩ | ⟨hs0, b, m, hb1, rfl, hbH, hmO⟩
        · have : s = [] := hz
          rw [this] at hS; simp at hS; omega
        have hs0 : 0 < s.length := hs0
        have hb1 : 1 ≤ b := hb1
        have hbH : H' b = some (.cells (oRows s m).flatten 37) := hbH
        have hbk : b < k0 := by
          rcases Nat.lt_or_ge b k0 with hx | hx
          · exact hx
          · rw [htop b hx] at hbH; cases hbH
        have q0 : ((0 : Nat) == k0) = false := by rw [beq_eq_false_iff_ne]; omega
        have qb : (b == k0) = false := by rw [beq_eq_false_iff_ne]; omega
        have tE := And.intro (@upd_upd AV) <| And.intro (@upd_upd (Option Blk)) <| And.intro e0 <| And.intro q0 <| And.intro Fs.cells.eq_1 <| And.intro ty3 <| And.intro ty4 <| And.intro ty5 <| And.intro ty23 <| And.intro ty24 <| And.intro ty26 <| And.intro ty29 <| And.intro ty34 <| And.intro ty35 <| And.intro ty37 <| Try.results3; repeat' first | ((with_reducible first | apply w_seq | apply w_region | apply wl_nil | apply wr_nil | apply wr_nilA | apply wr_nilE | apply go_normal | apply go_ret | apply go_exit | apply blk_normal | apply blk_ret | apply blk_here | apply w_block | apply w_skip | apply w_exit | apply w_label)) | ((with_reducible first | apply wz (tok Try.prog) | apply wr_z (tok Try.prog)); exact zZ; decide) | ((with_reducible first | apply w_alloc (tok Try.prog)); exact zT; decide) | ((with_reducible first | apply w_store (tok Try.prog)); exact zV; exact zV; exact zS) | fail
        all_goals try clear tE
        refine w_loopP (S := Nat) (fun i => [(2, .vptr c.cells), (3, .vptr f.cells), (5, .bool true), (6, .ptr 0 0), (12, .ptr k0 0), (13, .int .i64 (i : Int))]) [] (fun i H _ => i ≤ f.l.length ∧ LcI f s hand b m k0 i H) (fun i => f.l.length - i) 0 ?_ rfl ?_ ?_
        · (have tE := And.intro (@upd_upd AV) <| And.intro (@upd_upd (Option Blk)) <| Fs.cells.eq_1; simp only [fitsT, List.take_zero, List.length_nil, sp_cons, sp_nil, upd_b, Nat.reduceBEq, cond_true, cond_false, args0_zero, args0_succ, args0_nil, tE]; repeat' first | exact trivial | apply And.intro | exact Sub.refl _ | exact Sub.cap)
        · refine ⟨Nat.zero_le _, ?_, ?_, ?_, ⟨hmO.1.trans hS, fun j u v hu hv => ?_⟩⟩
          · show upd _ _ _ _ = _
            repeat rw [upd_ne _ _ (by omega)]
            exact e0
          · show upd _ k0 _ k0 = _
            rw [upd_same, hS]
          · show upd _ _ _ _ = _
            repeat rw [upd_ne _ _ (by omega)]
            rw [hbH]; rfl
          · obtain ⟨w, hw, _, _, hwu⟩ := hturn hu
            have ho := hmO.2 j w v hw hv
            have hmv : ∀ X : Heap, (∀ id, id ≠ k0 → X id = H' id) → ∀ id x, (1 ≤ id ∧ id ≠ b) → H' id = some x → (1 ≤ id ∧ id ≠ b ∧ id < k0) ∧ X id = some x := fun X hX id x hid hx => by
              have hlt : id < k0 := by
                rcases Nat.lt_or_ge id k0 with hx' | hx'
                · exact hx'
                · rw [htop id hx'] at hx; cases hx
              exact ⟨⟨hid.1, hid.2, hlt⟩, by rw [hX id (by omega)]; exact hx⟩
            have ed : w.d = u.d := by rw [← hwu]
            have ep : w.pins = u.pins := by rw [← hwu]
            have e1 := ho.1
            have e2 := ho.2
            rw [ed] at e1
            rw [ep] at e2
            refine ⟨e1.mv (hmv _ fun id hid => ?_), e2.mv (hmv _ fun id hid => ?_)⟩
            · show upd _ _ _ _ = _
              repeat rw [upd_ne _ _ hid]
            · show upd _ _ _ _ = _
              repeat rw [upd_ne _ _ hid]
        · rintro i H k ⟨hi, hI⟩
          have hw : IntKind.i64.wrap ((i : Int) + 1) = ((i + 1 : Nat) : Int) := by rw [wrap64 (by omega) (by omega)]; rfl
          have e0 := hI.h0
          have et := hI.ht
          have eb := hI.hb
          by_cases e : i < f.l.length
          · have g1 : ((i : Int) < (f.l.length : Int)) = True := by simp; omega
            have g2 : ((i : Int) < (s.length : Int)) = True := by simp; omega
            have g0 : (0 ≤ (i : Int)) = True := by simp
            obtain ⟨u, hu⟩ : ∃ u, f.l[i]? = some u := ⟨f.l[i], List.getElem?_eq_getElem e⟩
            obtain ⟨w, hws, wa, wb, wc⟩ := hturn hu
            have hr := fr_row hu
            have hrs := fr_row hws
            have hmx := mixed_at (l := f.l) hi hws
            obtain ⟨ab, hab⟩ : ∃ ab, m[i]? = some ab := ⟨m[i]'(by rw [hI.own.1]; exact e), List.getElem?_eq_getElem _⟩
            have hfl := oFlat_len (l := mixed_ f.l s i) (m := m) (by rw [mixed_len hS hi]; exact hI.own.1)
            rw [mixed_len hS hi] at hfl
            have b4 : (i * 6 + 4 + 1 ≤ (oRows (mixed_ f.l s i) m).flatten.length) = True := by rw [hfl]; simp; omega
            have hset := oFlat_setrf (b := u.rf) hmx hab
            rw [mixed_set hS hu hws wc] at hset
            have hnext : LcI f s hand b m k0 (i + 1) (upd H b (some (.cells (oRows (mixed_ f.l s (i + 1)) m).flatten 37))) := by
              refine ⟨by rw [upd_ne _ _ (by omega)]; exact hI.h0, by rw [upd_ne _ _ (by omega)]; exact hI.ht, upd_same _ _ _, hI.own.1, fun j v z hv hz => ?_⟩
              exact (hI.own.2 j v z hv hz).mono (fun _ h => h) (fun id x hid hx => by rw [upd_ne _ _ (by omega)]; exact hx)
            rw [← hset] at hnext
            have h13u := pf13 u (by have := (hd u (List.mem_of_getElem? hu)).2; omega)
            cases hfu : freeF u with
            | true =>
              cases hwr : w.rf with
              | true =>
                have hur := wb hwr
                rw [Fr.cells, hur] at h13u
                rw [hur] at hnext
                have tE := And.intro (@upd_upd AV) <| And.intro (@upd_upd (Option Blk)) <| And.intro g0 <| And.intro g1 <| And.intro g2 <| And.intro hr <| And.intro hrs <| And.intro hw <| And.intro e0 <| And.intro et <| And.intro eb <| And.intro b4 <| And.intro hfu <| And.intro hwr <| And.intro hur <| And.intro Fs.cells.eq_1 <| And.intro frRows_len <| And.intro ty3 <| And.intro ty4 <| And.intro ty5 <| And.intro ty23 <| And.intro ty24 <| And.intro ty26 <| And.intro ty29 <| And.intro ty34 <| And.intro ty35 <| And.intro ty37 <| Try.results3; repeat' first | ((with_reducible first | apply w_seq | apply w_region | apply wl_nil | apply wr_nil | apply wr_nilA | apply wr_nilE | apply go_normal | apply go_ret | apply go_exit | apply blk_normal | apply blk_ret | apply blk_here | apply w_block | apply w_skip | apply w_exit | apply w_label)) | ((with_reducible apply w_live (lvAt [[0, 1], [2, 3], [2, 3, 5], [5], [2, 3, 5], [2, 3, 5, 6, 7, 8], [2, 3, 5, 6, 7, 8, 9, 10], [2, 3, 5, 6, 7, 8, 9, 10, 11], [2, 3, 5, 6, 7, 8, 9, 10, 11], [2, 3, 5, 6, 7, 8, 9, 10, 11], [2, 3, 5, 6, 7, 8, 10, 11], [2, 3, 5, 6, 7, 8, 9, 10, 11], [2, 3, 5, 6, 7, 8, 9, 10], [5, 8, 9], [2, 3, 5, 6, 7, 9, 10], [], [2, 3, 5, 6], [2, 3, 5, 6, 12], [2, 3, 5, 6, 12], [2, 3, 5, 6, 12, 13], [2, 3, 5, 6, 12, 13], [2, 3, 5, 6, 12, 13], [], [2, 3, 5, 6, 12, 13], [2, 3, 5, 6, 12]])); (focus (simp only [lvAt_zero, lvAt_succ]; rfl)); exact zLv) | ((with_reducible first | apply wz (tok Try.prog) | apply wr_z (tok Try.prog)); exact zZ; decide) | ((with_reducible first | apply wzg (tok Try.prog) | apply wr_zg (tok Try.prog)); exact zU; exact zL; exact zU; exact zZ; decide) | ((with_reducible first | apply wskip' | apply wr_skip); exact zU; exact zL; exact zU; decide) | ((with_reducible first | apply wcall' | apply wr_call); exact zV; exact zVs; exact zAs; (focus (with_unfolding_all first | exact h13u)); decide) | ((with_reducible first | apply w_ift'); exact zV; exact zU) | ((with_reducible first | apply w_iff'); exact zV; exact zU) | ((with_reducible first | apply fm_nil | apply fm_cons)) | ((with_reducible apply m_next); exact zU) | ((with_reducible apply m_nil0); exact zU) | ((with_reducible first | apply m_v (tok Try.prog)); exact zU; exact zZ; decide) | ((with_reducible first | apply m_xA (tok Try.prog)); exact zU; exact zI; decide) | ((with_reducible first | apply m_x (tok Try.prog)); exact zU; (focus (decide +kernel)); exact zZ; decide) | ((with_reducible first | apply m_chg0); exact zU; (focus ((with_reducible apply c_store (tok Try.prog)); exact zV; exact zV; exact zS))) | ((with_reducible apply w_drawN (id := 23) [11] [([11], [0, 1, 2, 3, 4, 5, 6, 7, 8, 9, 10, 11])] mixed); (focus (decide +kernel))) | ((with_reducible first | apply w_draw0 mixed); (focus (decide +kernel))) | fail
                all_goals try clear tE
                refine ⟨i + 1, by omega, ⟨by omega, hnext⟩, rfl, ?_⟩
                (have tE := And.intro (@upd_upd AV) <| And.intro (@upd_upd (Option Blk)) <| And.intro hw <| Fs.cells.eq_1; simp only [fitsT, List.take_zero, List.length_nil, sp_cons, sp_nil, upd_b, Nat.reduceBEq, cond_true, cond_false, args0_zero, args0_succ, args0_nil, tE]; repeat' first | exact trivial | apply And.intro | exact Sub.refl _ | exact Sub.cap)
              | false =>
                rw [Fr.cells] at h13u
                have tE := And.intro (@upd_upd AV) <| And.intro (@upd_upd (Option Blk)) <| And.intro g0 <| And.intro g1 <| And.intro g2 <| And.intro hr <| And.intro hrs <| And.intro hw <| And.intro e0 <| And.intro et <| And.intro eb <| And.intro b4 <| And.intro hfu <| And.intro hwr <| And.intro Fs.cells.eq_1 <| And.intro frRows_len <| And.intro ty3 <| And.intro ty4 <| And.intro ty5 <| And.intro ty23 <| And.intro ty24 <| And.intro ty26 <| And.intro ty29 <| And.intro ty34 <| And.intro ty35 <| And.intro ty37 <| Try.results3; repeat' first | ((with_reducible first | apply w_seq | apply w_region | apply wl_nil | apply wr_nil | apply wr_nilA | apply wr_nilE | apply go_normal | apply go_ret | apply go_exit | apply blk_normal | apply blk_ret | apply blk_here | apply w_block | apply w_skip | apply w_exit | apply w_label)) | ((with_reducible apply w_live (lvAt [[0, 1], [2, 3], [2, 3, 5], [5], [2, 3, 5], [2, 3, 5, 6, 7, 8], [2, 3, 5, 6, 7, 8, 9, 10], [2, 3, 5, 6, 7, 8, 9, 10, 11], [2, 3, 5, 6, 7, 8, 9, 10, 11], [2, 3, 5, 6, 7, 8, 9, 10, 11], [2, 3, 5, 6, 7, 8, 10, 11], [2, 3, 5, 6, 7, 8, 9, 10, 11], [2, 3, 5, 6, 7, 8, 9, 10], [5, 8, 9], [2, 3, 5, 6, 7, 9, 10], [], [2, 3, 5, 6], [2, 3, 5, 6, 12], [2, 3, 5, 6, 12], [2, 3, 5, 6, 12, 13], [2, 3, 5, 6, 12, 13], [2, 3, 5, 6, 12, 13], [], [2, 3, 5, 6, 12, 13], [2, 3, 5, 6, 12]])); (focus (simp only [lvAt_zero, lvAt_succ]; rfl)); exact zLv) | ((with_reducible first | apply wz (tok Try.prog) | apply wr_z (tok Try.prog)); exact zZ; decide) | ((with_reducible first | apply wzg (tok Try.prog) | apply wr_zg (tok Try.prog)); exact zU; exact zL; exact zU; exact zZ; decide) | ((with_reducible first | apply wskip' | apply wr_skip); exact zU; exact zL; exact zU; decide) | ((with_reducible first | apply wcall' | apply wr_call); exact zV; exact zVs; exact zAs; (focus (with_unfolding_all first | exact h13u)); decide) | ((with_reducible first | apply w_ift'); exact zV; exact zU) | ((with_reducible first | apply w_iff'); exact zV; exact zU) | ((with_reducible first | apply fm_nil | apply fm_cons)) | ((with_reducible apply m_next); exact zU) | ((with_reducible apply m_nil0); exact zU) | ((with_reducible first | apply m_v (tok Try.prog)); exact zU; exact zZ; decide) | ((with_reducible first | apply m_xA (tok Try.prog)); exact zU; exact zI; decide) | ((with_reducible first | apply m_x (tok Try.prog)); exact zU; (focus (decide +kernel)); exact zZ; decide) | ((with_reducible first | apply m_chg0); exact zU; (focus ((with_reducible apply c_store (tok Try.prog)); exact zV; exact zV; exact zS))) | ((with_reducible apply w_drawN (id := 23) [11] [([11], [0, 1, 2, 3, 4, 5, 6, 7, 8, 9, 10, 11])] mixed); (focus (decide +kernel))) | ((with_reducible first | apply w_draw0 mixed); (focus (decide +kernel))) | fail
                all_goals try clear tE
                refine ⟨i + 1, by omega, ⟨by omega, hnext⟩, rfl, ?_⟩
                (have tE := And.intro (@upd_upd AV) <| And.intro (@upd_upd (Option Blk)) <| And.intro hw <| Fs.cells.eq_1; simp only [fitsT, List.take_zero, List.length_nil, sp_cons, sp_nil, upd_b, Nat.reduceBEq, cond_true, cond_false, args0_zero, args0_succ, args0_nil, tE]; repeat' first | exact trivial | apply And.intro | exact Sub.refl _ | exact Sub.cap)
            | false =>
              have hwe := wa hfu
              cases hur : u.rf with
              | true =>
                rw [hur] at hwe
                rw [Fr.cells, hur] at h13u
                rw [hur] at hnext
                have tE := And.intro (@upd_upd AV) <| And.intro (@upd_upd (Option Blk)) <| And.intro g0 <| And.intro g1 <| And.intro g2 <| And.intro hr <| And.intro hrs <| And.intro hw <| And.intro e0 <| And.intro et <| And.intro eb <| And.intro b4 <| And.intro hfu <| And.intro hwe <| And.intro hur <| And.intro Fs.cells.eq_1 <| And.intro frRows_len <| And.intro ty3 <| And.intro ty4 <| And.intro ty5 <| And.intro ty23 <| And.intro ty24 <| And.intro ty26 <| And.intro ty29 <| And.intro ty34 <| And.intro ty35 <| And.intro ty37 <| Try.results3; repeat' first | ((with_reducible first | apply w_seq | apply w_region | apply wl_nil | apply wr_nil | apply wr_nilA | apply wr_nilE | apply go_normal | apply go_ret | apply go_exit | apply blk_normal | apply blk_ret | apply blk_here | apply w_block | apply w_skip | apply w_exit | apply w_label)) | ((with_reducible apply w_live (lvAt [[0, 1], [2, 3], [2, 3, 5], [5], [2, 3, 5], [2, 3, 5, 6, 7, 8], [2, 3, 5, 6, 7, 8, 9, 10], [2, 3, 5, 6, 7, 8, 9, 10, 11], [2, 3, 5, 6, 7, 8, 9, 10, 11], [2, 3, 5, 6, 7, 8, 9, 10, 11], [2, 3, 5, 6, 7, 8, 10, 11], [2, 3, 5, 6, 7, 8, 9, 10, 11], [2, 3, 5, 6, 7, 8, 9, 10], [5, 8, 9], [2, 3, 5, 6, 7, 9, 10], [], [2, 3, 5, 6], [2, 3, 5, 6, 12], [2, 3, 5, 6, 12], [2, 3, 5, 6, 12, 13], [2, 3, 5, 6, 12, 13], [2, 3, 5, 6, 12, 13], [], [2, 3, 5, 6, 12, 13], [2, 3, 5, 6, 12]])); (focus (simp only [lvAt_zero, lvAt_succ]; rfl)); exact zLv) | ((with_reducible first | apply wz (tok Try.prog) | apply wr_z (tok Try.prog)); exact zZ; decide) | ((with_reducible first | apply wzg (tok Try.prog) | apply wr_zg (tok Try.prog)); exact zU; exact zL; exact zU; exact zZ; decide) | ((with_reducible first | apply wcall' | apply wr_call); exact zV; exact zVs; exact zAs; (focus (with_unfolding_all first | exact h13u)); decide) | ((with_reducible first | apply w_ift'); exact zV; exact zU) | ((with_reducible first | apply w_iff'); exact zV; exact zU) | ((with_reducible first | apply fm_nil | apply fm_cons)) | ((with_reducible apply m_next); exact zU) | ((with_reducible apply m_nil0); exact zU) | ((with_reducible first | apply m_v (tok Try.prog)); exact zU; exact zZ; decide) | ((with_reducible first | apply m_xA (tok Try.prog)); exact zU; exact zI; decide) | ((with_reducible first | apply m_x (tok Try.prog)); exact zU; (focus (decide +kernel)); exact zZ; decide) | ((with_reducible first | apply m_chg0); exact zU; (focus ((with_reducible apply c_store (tok Try.prog)); exact zV; exact zV; exact zS))) | ((with_reducible apply w_drawN (id := 23) [11] [([11], [0, 1, 2, 3, 4, 5, 6, 7, 8, 9, 10, 11])] mixed); (focus (decide +kernel))) | ((with_reducible first | apply w_draw0 mixed); (focus (decide +kernel))) | fail
                all_goals try clear tE
                refine ⟨i + 1, by omega, ⟨by omega, hnext⟩, rfl, ?_⟩
                (have tE := And.intro (@upd_upd AV) <| And.intro (@upd_upd (Option Blk)) <| And.intro hw <| Fs.cells.eq_1; simp only [fitsT, List.take_zero, List.length_nil, sp_cons, sp_nil, upd_b, Nat.reduceBEq, cond_true, cond_false, args0_zero, args0_succ, args0_nil, tE]; repeat' first | exact trivial | apply And.intro | exact Sub.refl _ | exact Sub.cap)
              | false =>
                rw [hur] at hwe
                rw [Fr.cells, hur] at h13u
                rw [hur] at hnext
                have tE := And.intro (@upd_upd AV) <| And.intro (@upd_upd (Option Blk)) <| And.intro g0 <| And.intro g1 <| And.intro g2 <| And.intro hr <| And.intro hrs <| And.intro hw <| And.intro e0 <| And.intro et <| And.intro eb <| And.intro b4 <| And.intro hfu <| And.intro hwe <| And.intro hur <| And.intro Fs.cells.eq_1 <| And.intro frRows_len <| And.intro ty3 <| And.intro ty4 <| And.intro ty5 <| And.intro ty23 <| And.intro ty24 <| And.intro ty26 <| And.intro ty29 <| And.intro ty34 <| And.intro ty35 <| And.intro ty37 <| Try.results3; repeat' first | ((with_reducible first | apply w_seq | apply w_region | apply wl_nil | apply wr_nil | apply wr_nilA | apply wr_nilE | apply go_normal | apply go_ret | apply go_exit | apply blk_normal | apply blk_ret | apply blk_here | apply w_block | apply w_skip | apply w_exit | apply w_label)) | ((with_reducible apply w_live (lvAt [[0, 1], [2, 3], [2, 3, 5], [5], [2, 3, 5], [2, 3, 5, 6, 7, 8], [2, 3, 5, 6, 7, 8, 9, 10], [2, 3, 5, 6, 7, 8, 9, 10, 11], [2, 3, 5, 6, 7, 8, 9, 10, 11], [2, 3, 5, 6, 7, 8, 9, 10, 11], [2, 3, 5, 6, 7, 8, 10, 11], [2, 3, 5, 6, 7, 8, 9, 10, 11], [2, 3, 5, 6, 7, 8, 9, 10], [5, 8, 9], [2, 3, 5, 6, 7, 9, 10], [], [2, 3, 5, 6], [2, 3, 5, 6, 12], [2, 3, 5, 6, 12], [2, 3, 5, 6, 12, 13], [2, 3, 5, 6, 12, 13], [2, 3, 5, 6, 12, 13], [], [2, 3, 5, 6, 12, 13], [2, 3, 5, 6, 12]])); (focus (simp only [lvAt_zero, lvAt_succ]; rfl)); exact zLv) | ((with_reducible first | apply wz (tok Try.prog) | apply wr_z (tok Try.prog)); exact zZ; decide) | ((with_reducible first | apply wzg (tok Try.prog) | apply wr_zg (tok Try.prog)); exact zU; exact zL; exact zU; exact zZ; decide) | ((with_reducible first | apply wskip' | apply wr_skip); exact zU; exact zL; exact zU; decide) | ((with_reducible first | apply wcall' | apply wr_call); exact zV; exact zVs; exact zAs; (focus (with_unfolding_all first | exact h13u)); decide) | ((with_reducible first | apply w_ift'); exact zV; exact zU) | ((with_reducible first | apply w_iff'); exact zV; exact zU) | ((with_reducible first | apply fm_nil | apply fm_cons)) | ((with_reducible apply m_next); exact zU) | ((with_reducible apply m_nil0); exact zU) | ((with_reducible first | apply m_v (tok Try.prog)); exact zU; exact zZ; decide) | ((with_reducible first | apply m_xA (tok Try.prog)); exact zU; exact zI; decide) | ((with_reducible first | apply m_x (tok Try.prog)); exact zU; (focus (decide +kernel)); exact zZ; decide) | ((with_reducible first | apply m_chg0); exact zU; (focus ((with_reducible apply c_store (tok Try.prog)); exact zV; exact zV; exact zS))) | ((with_reducible apply w_drawN (id := 23) [11] [([11], [0, 1, 2, 3, 4, 5, 6, 7, 8, 9, 10, 11])] mixed); (focus (decide +kernel))) | ((with_reducible first | apply w_draw0 mixed); (focus (decide +kernel))) | fail
                all_goals try clear tE
                refine ⟨i + 1, by omega, ⟨by omega, hnext⟩, rfl, ?_⟩
                (have tE := And.intro (@upd_upd AV) <| And.intro (@upd_upd (Option Blk)) <| And.intro hw <| Fs.cells.eq_1; simp only [fitsT, List.take_zero, List.length_nil, sp_cons, sp_nil, upd_b, Nat.reduceBEq, cond_true, cond_false, args0_zero, args0_succ, args0_nil, tE]; repeat' first | exact trivial | apply And.intro | exact Sub.refl _ | exact Sub.cap)
          · have g1 : ((i : Int) < (f.l.length : Int)) = False := by simp; omega
            have ei : i = f.l.length := by omega
            subst ei
            have emx : mixed_ f.l s f.l.length = f.l := by rw [mixed_, List.take_length, List.drop_of_length_le (by omega), List.append_nil]
            rw [emx] at eb
            have hl15 : AC Try.prog 15 [.agg [.slice b 0 f.l.length none 6, .int .i64 f.h], .agg f.cells] H k (fun r h' n' => r = .ret (.bool (sameF f f)) ∧ h' = H ∧ n' = k) := by
              refine PF.look h15 (.bool _) H k (.cons (Own.fz (S := fun _ => True) (OwnF.own (.inr ⟨by omega, b, m, trivial, rfl, eb, hI.own.1, fun j u v hu hv => ?_⟩))) (.cons (.pur (fsa_pur f)) .nil))
              exact (hI.own.2 j u v hu hv).mono (fun _ h => ⟨trivial, h.2.1⟩) (fun _ _ _ h => h)
            have tE := And.intro (@upd_upd AV) <| And.intro (@upd_upd (Option Blk)) <| And.intro g1 <| And.intro e0 <| And.intro et <| And.intro hsame <| And.intro evx <| And.intro Cf.cells.eq_1 <| And.intro Fs.cells.eq_1 <| And.intro frRows_len <| And.intro ty3 <| And.intro ty4 <| And.intro ty5 <| And.intro ty23 <| And.intro ty24 <| And.intro ty26 <| And.intro ty29 <| And.intro ty34 <| And.intro ty35 <| And.intro ty37 <| Try.results3; repeat' first | ((with_reducible first | apply w_seq | apply w_region | apply wl_nil | apply wr_nil | apply wr_nilA | apply wr_nilE | apply go_normal | apply go_ret | apply go_exit | apply blk_normal | apply blk_ret | apply blk_here | apply w_block | apply w_skip | apply w_exit | apply w_label)) | ((with_reducible first | apply wz (tok Try.prog) | apply wr_z (tok Try.prog)); exact zZ; decide) | ((with_reducible first | apply wzg (tok Try.prog) | apply wr_zg (tok Try.prog)); exact zU; exact zL; exact zU; exact zZ; decide) | ((with_reducible first | apply wcallg' | apply wr_callg); exact zU; exact zL; exact zU; exact zV; exact zVs; exact zAs; (focus (with_unfolding_all first | exact h11x)); decide) | ((with_reducible first | apply wacallg'); exact zU; exact zL; exact zU; exact zV; exact zVs; exact zAs; (focus (first | exact ⟨_, Try.func15, rfl, rfl⟩)); (focus (with_unfolding_all first | exact hl15)); decide) | ((with_reducible first | apply w_iff'); exact zV; exact zU) | ((with_reducible apply w_ret); (repeat (with_reducible first | apply go_ret | apply blk_ret)); (with_reducible apply done_ret (tok Try.prog)); exact zT; exact zD; exact zX) | fail
            all_goals try clear tE
            all_goals rfl
      | false =>
        rw [Fr.cells, hxr] at h13
        have tE := And.intro (@upd_upd AV) <| And.intro (@upd_upd (Option Blk)) <| And.intro g1 <| And.intro hr <| And.intro hrs <| And.intro a0 <| And.intro a1 <| And.intro a2 <| And.intro a3 <| And.intro a4 <| And.intro hw1 <| And.intro hne <| And.intro hrem <| And.intro hsl <| And.intro hfx <| And.intro hxr <| And.intro hyr <| And.intro Fs.cells.eq_1 <| And.intro Fr.cells.eq_1 <| And.intro frRows_len <| And.intro ty3 <| And.intro ty4 <| And.intro ty5 <| And.intro ty23 <| And.intro ty24 <| And.intro ty26 <| And.intro ty29 <| And.intro ty34 <| And.intro ty35 <| And.intro ty37 <| Try.results3; repeat' first | ((with_reducible first | apply w_seq | apply w_region | apply wl_nil | apply wr_nil | apply wr_nilA | apply wr_nilE | apply go_normal | apply go_ret | apply go_exit | apply blk_normal | apply blk_ret | apply blk_here | apply w_block | apply w_skip | apply w_exit | apply w_label)) | ((with_reducible apply w_live (lvAt [[0, 1], [2, 3], [2, 3, 5], [5], [2, 3, 5], [2, 3, 5, 6, 7, 8], [2, 3, 5, 6, 7, 8, 9, 10], [2, 3, 5, 6, 7, 8, 9, 10, 11], [2, 3, 5, 6, 7, 8, 9, 10, 11], [2, 3, 5, 6, 7, 8, 9, 10, 11], [2, 3, 5, 6, 7, 8, 10, 11], [2, 3, 5, 6, 7, 8, 9, 10, 11], [2, 3, 5, 6, 7, 8, 9, 10], [5, 8, 9], [2, 3, 5, 6, 7, 9, 10], [], [2, 3, 5, 6], [2, 3, 5, 6, 12], [2, 3, 5, 6, 12], [2, 3, 5, 6, 12, 13], [2, 3, 5, 6, 12, 13], [2, 3, 5, 6, 12, 13], [], [2, 3, 5, 6, 12, 13], [2, 3, 5, 6, 12]])); (focus (simp only [lvAt_zero, lvAt_succ]; rfl)); exact zLv) | ((with_reducible first | apply wz (tok Try.prog) | apply wr_z (tok Try.prog)); exact zZ; decide) | ((with_reducible first | apply wzg (tok Try.prog) | apply wr_zg (tok Try.prog)); exact zU; exact zL; exact zU; exact zZ; decide) | ((with_reducible first | apply wskip' | apply wr_skip); exact zU; exact zL; exact zU; decide) | ((with_reducible first | apply wcallg' | apply wr_callg); exact zU; exact zL; exact zU; exact zV; exact zVs; exact zAs; (focus (with_unfolding_all first | exact h13)); decide) | ((with_reducible first | apply w_iff'); exact zV; exact zU) | ((with_reducible first | apply w_draw0 mixed); (focus (decide +kernel))) | fail
        all_goals try clear tE
        (have tE := And.intro (@upd_upd AV) <| And.intro (@upd_upd (Option Blk)) <| Fs.cells.eq_1; (with_reducible apply wacall); exact zV; exact zVs; exact zAs; exact cal14; (focus (with_unfolding_all exact h14 _ _)); decide; clear tE)
        rintro r H' k0 ⟨hn', hold, htop, a, rfl, hown⟩
        have hk0 : 1 ≤ k0 := hn'
        have e0 : H' 0 = some (.cells [.view (frRows s), .int .i64 (hand : Int)] 26) := hold 0 _ rfl
        rcases hown with ⟨hz, _⟩ | ⟨hs0, b, m, hb1, rfl, hbH, hmO⟩
        · have : s = [] := hz
          rw [this] at hS; simp at hS; omega
        have hs0 : 0 < s.length := hs0
        have hb1 : 1 ≤ b := hb1
        have hbH : H' b = some (.cells (oRows s m).flatten 37) := hbH
        have hbk : b < k0 := by
          rcases Nat.lt_or_ge b k0 with hx | hx
          · exact hx
          · rw [htop b hx] at hbH; cases hbH
        have q0 : ((0 : Nat) == k0) = false := by rw [beq_eq_false_iff_ne]; omega
        have qb : (b == k0) = false := by rw [beq_eq_false_iff_ne]; omega
        have tE := And.intro (@upd_upd AV) <| And.intro (@upd_upd (Option Blk)) <| And.intro e0 <| And.intro q0 <| And.intro Fs.cells.eq_1 <| And.intro ty3 <| And.intro ty4 <| And.intro ty5 <| And.intro ty23 <| And.intro ty24 <| And.intro ty26 <| And.intro ty29 <| And.intro ty34 <| And.intro ty35 <| And.intro ty37 <| Try.results3; repeat' first | ((with_reducible first | apply w_seq | apply w_region | apply wl_nil | apply wr_nil | apply wr_nilA | apply wr_nilE | apply go_normal | apply go_ret | apply go_exit | apply blk_normal | apply blk_ret | apply blk_here | apply w_block | apply w_skip | apply w_exit | apply w_label)) | ((with_reducible first | apply wz (tok Try.prog) | apply wr_z (tok Try.prog)); exact zZ; decide) | ((with_reducible first | apply w_alloc (tok Try.prog)); exact zT; decide) | ((with_reducible first | apply w_store (tok Try.prog)); exact zV; exact zV; exact zS) | fail
        all_goals try clear tE
        refine w_loopP (S := Nat) (fun i => [(2, .vptr c.cells), (3, .vptr f.cells), (5, .bool true), (6, .ptr 0 0), (12, .ptr k0 0), (13, .int .i64 (i : Int))]) [] (fun i H _ => i ≤ f.l.length ∧ LcI f s hand b m k0 i H) (fun i => f.l.length - i) 0 ?_ rfl ?_ ?_
        · (have tE := And.intro (@upd_upd AV) <| And.intro (@upd_upd (Option Blk)) <| Fs.cells.eq_1; simp only [fitsT, List.take_zero, List.length_nil, sp_cons, sp_nil, upd_b, Nat.reduceBEq, cond_true, cond_false, args0_zero, args0_succ, args0_nil, tE]; repeat' first | exact trivial | apply And.intro | exact Sub.refl _ | exact Sub.cap)
        · refine ⟨Nat.zero_le _, ?_, ?_, ?_, ⟨hmO.1.trans hS, fun j u v hu hv => ?_⟩⟩
          · show upd _ _ _ _ = _
            repeat rw [upd_ne _ _ (by omega)]
            exact e0
          · show upd _ k0 _ k0 = _
            rw [upd_same, hS]
          · show upd _ _ _ _ = _
            repeat rw [upd_ne _ _ (by omega)]
            rw [hbH]; rfl
          · obtain ⟨w, hw, _, _, hwu⟩ := hturn hu
            have ho := hmO.2 j w v hw hv
            have hmv : ∀ X : Heap, (∀ id, id ≠ k0 → X id = H' id) → ∀ id x, (1 ≤ id ∧ id ≠ b) → H' id = some x → (1 ≤ id ∧ id ≠ b ∧ id < k0) ∧ X id = some x := fun X hX id x hid hx => by
              have hlt : id < k0 := by
                rcases Nat.lt_or_ge id k0 with hx' | hx'
                · exact hx'
                · rw [htop id hx'] at hx; cases hx
              exact ⟨⟨hid.1, hid.2, hlt⟩, by rw [hX id (by omega)]; exact hx⟩
            have ed : w.d = u.d := by rw [← hwu]
            have ep : w.pins = u.pins := by rw [← hwu]
            have e1 := ho.1
            have e2 := ho.2
            rw [ed] at e1
            rw [ep] at e2
            refine ⟨e1.mv (hmv _ fun id hid => ?_), e2.mv (hmv _ fun id hid => ?_)⟩
            · show upd _ _ _ _ = _
              repeat rw [upd_ne _ _ hid]
            · show upd _ _ _ _ = _
              repeat rw [upd_ne _ _ hid]
        · rintro i H k ⟨hi, hI⟩
          have hw : IntKind.i64.wrap ((i : Int) + 1) = ((i + 1 : Nat) : Int) := by rw [wrap64 (by omega) (by omega)]; rfl
          have e0 := hI.h0
          have et := hI.ht
          have eb := hI.hb
          by_cases e : i < f.l.length
          · have g1 : ((i : Int) < (f.l.length : Int)) = True := by simp; omega
            have g2 : ((i : Int) < (s.length : Int)) = True := by simp; omega
            have g0 : (0 ≤ (i : Int)) = True := by simp
            obtain ⟨u, hu⟩ : ∃ u, f.l[i]? = some u := ⟨f.l[i], List.getElem?_eq_getElem e⟩
            obtain ⟨w, hws, wa, wb, wc⟩ := hturn hu
            have hr := fr_row hu
            have hrs := fr_row hws
            have hmx := mixed_at (l := f.l) hi hws
            obtain ⟨ab, hab⟩ : ∃ ab, m[i]? = some ab := ⟨m[i]'(by rw [hI.own.1]; exact e), List.getElem?_eq_getElem _⟩
            have hfl := oFlat_len (l := mixed_ f.l s i) (m := m) (by rw [mixed_len hS hi]; exact hI.own.1)
            rw [mixed_len hS hi] at hfl
            have b4 : (i * 6 + 4 + 1 ≤ (oRows (mixed_ f.l s i) m).flatten.length) = True := by rw [hfl]; simp; omega
            have hset := oFlat_setrf (b := u.rf) hmx hab
            rw [mixed_set hS hu hws wc] at hset
            have hnext : LcI f s hand b m k0 (i + 1) (upd H b (some (.cells (oRows (mixed_ f.l s (i + 1)) m).flatten 37))) := by
              refine ⟨by rw [upd_ne _ _ (by omega)]; exact hI.h0, by rw [upd_ne _ _ (by omega)]; exact hI.ht, upd_same _ _ _, hI.own.1, fun j v z hv hz => ?_⟩
              exact (hI.own.2 j v z hv hz).mono (fun _ h => h) (fun id x hid hx => by rw [upd_ne _ _ (by omega)]; exact hx)
            rw [← hset] at hnext
            have h13u := pf13 u (by have := (hd u (List.mem_of_getElem? hu)).2; omega)
            cases hfu : freeF u with
            | true =>
              cases hwr : w.rf with
              | true =>
                have hur := wb hwr
                rw [Fr.cells, hur] at h13u
                rw [hur] at hnext
                have tE := And.intro (@upd_upd AV) <| And.intro (@upd_upd (Option Blk)) <| And.intro g0 <| And.intro g1 <| And.intro g2 <| And.intro hr <| And.intro hrs <| And.intro hw <| And.intro e0 <| And.intro et <| And.intro eb <| And.intro b4 <| And.intro hfu <| And.intro hwr <| And.intro hur <| And.intro Fs.cells.eq_1 <| And.intro frRows_len <| And.intro ty3 <| And.intro ty4 <| And.intro ty5 <| And.intro ty23 <| And.intro ty24 <| And.intro ty26 <| And.intro ty29 <| And.intro ty34 <| And.intro ty35 <| And.intro ty37 <| Try.results3; repeat' first | ((with_reducible first | apply w_seq | apply w_region | apply wl_nil | apply wr_nil | apply wr_nilA | apply wr_nilE | apply go_normal | apply go_ret | apply go_exit | apply blk_normal | apply blk_ret | apply blk_here | apply w_block | apply w_skip | apply w_exit | apply w_label)) | ((with_reducible apply w_live (lvAt [[0, 1], [2, 3], [2, 3, 5], [5], [2, 3, 5], [2, 3, 5, 6, 7, 8], [2, 3, 5, 6, 7, 8, 9, 10], [2, 3, 5, 6, 7, 8, 9, 10, 11], [2, 3, 5, 6, 7, 8, 9, 10, 11], [2, 3, 5, 6, 7, 8, 9, 10, 11], [2, 3, 5, 6, 7, 8, 10, 11], [2, 3, 5, 6, 7, 8, 9, 10, 11], [2, 3, 5, 6, 7, 8, 9, 10], [5, 8, 9], [2, 3, 5, 6, 7, 9, 10], [], [2, 3, 5, 6], [2, 3, 5, 6, 12], [2, 3, 5, 6, 12], [2, 3, 5, 6, 12, 13], [2, 3, 5, 6, 12, 13], [2, 3, 5, 6, 12, 13], [], [2, 3, 5, 6, 12, 13], [2, 3, 5, 6, 12]])); (focus (simp only [lvAt_zero, lvAt_succ]; rfl)); exact zLv) | ((with_reducible first | apply wz (tok Try.prog) | apply wr_z (tok Try.prog)); exact zZ; decide) | ((with_reducible first | apply wzg (tok Try.prog) | apply wr_zg (tok Try.prog)); exact zU; exact zL; exact zU; exact zZ; decide) | ((with_reducible first | apply wskip' | apply wr_skip); exact zU; exact zL; exact zU; decide) | ((with_reducible first | apply wcall' | apply wr_call); exact zV; exact zVs; exact zAs; (focus (with_unfolding_all first | exact h13u)); decide) | ((with_reducible first | apply w_ift'); exact zV; exact zU) | ((with_reducible first | apply w_iff'); exact zV; exact zU) | ((with_reducible first | apply fm_nil | apply fm_cons)) | ((with_reducible apply m_next); exact zU) | ((with_reducible apply m_nil0); exact zU) | ((with_reducible first | apply m_v (tok Try.prog)); exact zU; exact zZ; decide) | ((with_reducible first | apply m_xA (tok Try.prog)); exact zU; exact zI; decide) | ((with_reducible first | apply m_x (tok Try.prog)); exact zU; (focus (decide +kernel)); exact zZ; decide) | ((with_reducible first | apply m_chg0); exact zU; (focus ((with_reducible apply c_store (tok Try.prog)); exact zV; exact zV; exact zS))) | ((with_reducible apply w_drawN (id := 23) [11] [([11], [0, 1, 2, 3, 4, 5, 6, 7, 8, 9, 10, 11])] mixed); (focus (decide +kernel))) | ((with_reducible first | apply w_draw0 mixed); (focus (decide +kernel))) | fail
                all_goals try clear tE
                refine ⟨i + 1, by omega, ⟨by omega, hnext⟩, rfl, ?_⟩
                (have tE := And.intro (@upd_upd AV) <| And.intro (@upd_upd (Option Blk)) <| And.intro hw <| Fs.cells.eq_1; simp only [fitsT, List.take_zero, List.length_nil, sp_cons, sp_nil, upd_b, Nat.reduceBEq, cond_true, cond_false, args0_zero, args0_succ, args0_nil, tE]; repeat' first | exact trivial | apply And.intro | exact Sub.refl _ | exact Sub.cap)
              | false =>
                rw [Fr.cells] at h13u
                have tE := And.intro (@upd_upd AV) <| And.intro (@upd_upd (Option Blk)) <| And.intro g0 <| And.intro g1 <| And.intro g2 <| And.intro hr <| And.intro hrs <| And.intro hw <| And.intro e0 <| And.intro et <| And.intro eb <| And.intro b4 <| And.intro hfu <| And.intro hwr <| And.intro Fs.cells.eq_1 <| And.intro frRows_len <| And.intro ty3 <| And.intro ty4 <| And.intro ty5 <| And.intro ty23 <| And.intro ty24 <| And.intro ty26 <| And.intro ty29 <| And.intro ty34 <| And.intro ty35 <| And.intro ty37 <| Try.results3; repeat' first | ((with_reducible first | apply w_seq | apply w_region | apply wl_nil | apply wr_nil | apply wr_nilA | apply wr_nilE | apply go_normal | apply go_ret | apply go_exit | apply blk_normal | apply blk_ret | apply blk_here | apply w_block | apply w_skip | apply w_exit | apply w_label)) | ((with_reducible apply w_live (lvAt [[0, 1], [2, 3], [2, 3, 5], [5], [2, 3, 5], [2, 3, 5, 6, 7, 8], [2, 3, 5, 6, 7, 8, 9, 10], [2, 3, 5, 6, 7, 8, 9, 10, 11], [2, 3, 5, 6, 7, 8, 9, 10, 11], [2, 3, 5, 6, 7, 8, 9, 10, 11], [2, 3, 5, 6, 7, 8, 10, 11], [2, 3, 5, 6, 7, 8, 9, 10, 11], [2, 3, 5, 6, 7, 8, 9, 10], [5, 8, 9], [2, 3, 5, 6, 7, 9, 10], [], [2, 3, 5, 6], [2, 3, 5, 6, 12], [2, 3, 5, 6, 12], [2, 3, 5, 6, 12, 13], [2, 3, 5, 6, 12, 13], [2, 3, 5, 6, 12, 13], [], [2, 3, 5, 6, 12, 13], [2, 3, 5, 6, 12]])); (focus (simp only [lvAt_zero, lvAt_succ]; rfl)); exact zLv) | ((with_reducible first | apply wz (tok Try.prog) | apply wr_z (tok Try.prog)); exact zZ; decide) | ((with_reducible first | apply wzg (tok Try.prog) | apply wr_zg (tok Try.prog)); exact zU; exact zL; exact zU; exact zZ; decide) | ((with_reducible first | apply wskip' | apply wr_skip); exact zU; exact zL; exact zU; decide) | ((with_reducible first | apply wcall' | apply wr_call); exact zV; exact zVs; exact zAs; (focus (with_unfolding_all first | exact h13u)); decide) | ((with_reducible first | apply w_ift'); exact zV; exact zU) | ((with_reducible first | apply w_iff'); exact zV; exact zU) | ((with_reducible first | apply fm_nil | apply fm_cons)) | ((with_reducible apply m_next); exact zU) | ((with_reducible apply m_nil0); exact zU) | ((with_reducible first | apply m_v (tok Try.prog)); exact zU; exact zZ; decide) | ((with_reducible first | apply m_xA (tok Try.prog)); exact zU; exact zI; decide) | ((with_reducible first | apply m_x (tok Try.prog)); exact zU; (focus (decide +kernel)); exact zZ; decide) | ((with_reducible first | apply m_chg0); exact zU; (focus ((with_reducible apply c_store (tok Try.prog)); exact zV; exact zV; exact zS))) | ((with_reducible apply w_drawN (id := 23) [11] [([11], [0, 1, 2, 3, 4, 5, 6, 7, 8, 9, 10, 11])] mixed); (focus (decide +kernel))) | ((with_reducible first | apply w_draw0 mixed); (focus (decide +kernel))) | fail
                all_goals try clear tE
                refine ⟨i + 1, by omega, ⟨by omega, hnext⟩, rfl, ?_⟩
                (have tE := And.intro (@upd_upd AV) <| And.intro (@upd_upd (Option Blk)) <| And.intro hw <| Fs.cells.eq_1; simp only [fitsT, List.take_zero, List.length_nil, sp_cons, sp_nil, upd_b, Nat.reduceBEq, cond_true, cond_false, args0_zero, args0_succ, args0_nil, tE]; repeat' first | exact trivial | apply And.intro | exact Sub.refl _ | exact Sub.cap)
            | false =>
              have hwe := wa hfu
              cases hur : u.rf with
              | true =>
                rw [hur] at hwe
                rw [Fr.cells, hur] at h13u
                rw [hur] at hnext
                have tE := And.intro (@upd_upd AV) <| And.intro (@upd_upd (Option Blk)) <| And.intro g0 <| And.intro g1 <| And.intro g2 <| And.intro hr <| And.intro hrs <| And.intro hw <| And.intro e0 <| And.intro et <| And.intro eb <| And.intro b4 <| And.intro hfu <| And.intro hwe <| And.intro hur <| And.intro Fs.cells.eq_1 <| And.intro frRows_len <| And.intro ty3 <| And.intro ty4 <| And.intro ty5 <| And.intro ty23 <| And.intro ty24 <| And.intro ty26 <| And.intro ty29 <| And.intro ty34 <| And.intro ty35 <| And.intro ty37 <| Try.results3; repeat' first | ((with_reducible first | apply w_seq | apply w_region | apply wl_nil | apply wr_nil | apply wr_nilA | apply wr_nilE | apply go_normal | apply go_ret | apply go_exit | apply blk_normal | apply blk_ret | apply blk_here | apply w_block | apply w_skip | apply w_exit | apply w_label)) | ((with_reducible apply w_live (lvAt [[0, 1], [2, 3], [2, 3, 5], [5], [2, 3, 5], [2, 3, 5, 6, 7, 8], [2, 3, 5, 6, 7, 8, 9, 10], [2, 3, 5, 6, 7, 8, 9, 10, 11], [2, 3, 5, 6, 7, 8, 9, 10, 11], [2, 3, 5, 6, 7, 8, 9, 10, 11], [2, 3, 5, 6, 7, 8, 10, 11], [2, 3, 5, 6, 7, 8, 9, 10, 11], [2, 3, 5, 6, 7, 8, 9, 10], [5, 8, 9], [2, 3, 5, 6, 7, 9, 10], [], [2, 3, 5, 6], [2, 3, 5, 6, 12], [2, 3, 5, 6, 12], [2, 3, 5, 6, 12, 13], [2, 3, 5, 6, 12, 13], [2, 3, 5, 6, 12, 13], [], [2, 3, 5, 6, 12, 13], [2, 3, 5, 6, 12]])); (focus (simp only [lvAt_zero, lvAt_succ]; rfl)); exact zLv) | ((with_reducible first | apply wz (tok Try.prog) | apply wr_z (tok Try.prog)); exact zZ; decide) | ((with_reducible first | apply wzg (tok Try.prog) | apply wr_zg (tok Try.prog)); exact zU; exact zL; exact zU; exact zZ; decide) | ((with_reducible first | apply wcall' | apply wr_call); exact zV; exact zVs; exact zAs; (focus (with_unfolding_all first | exact h13u)); decide) | ((with_reducible first | apply w_ift'); exact zV; exact zU) | ((with_reducible first | apply w_iff'); exact zV; exact zU) | ((with_reducible first | apply fm_nil | apply fm_cons)) | ((with_reducible apply m_next); exact zU) | ((with_reducible apply m_nil0); exact zU) | ((with_reducible first | apply m_v (tok Try.prog)); exact zU; exact zZ; decide) | ((with_reducible first | apply m_xA (tok Try.prog)); exact zU; exact zI; decide) | ((with_reducible first | apply m_x (tok Try.prog)); exact zU; (focus (decide +kernel)); exact zZ; decide) | ((with_reducible first | apply m_chg0); exact zU; (focus ((with_reducible apply c_store (tok Try.prog)); exact zV; exact zV; exact zS))) | ((with_reducible apply w_drawN (id := 23) [11] [([11], [0, 1, 2, 3, 4, 5, 6, 7, 8, 9, 10, 11])] mixed); (focus (decide +kernel))) | ((with_reducible first | apply w_draw0 mixed); (focus (decide +kernel))) | fail
                all_goals try clear tE
                refine ⟨i + 1, by omega, ⟨by omega, hnext⟩, rfl, ?_⟩
                (have tE := And.intro (@upd_upd AV) <| And.intro (@upd_upd (Option Blk)) <| And.intro hw <| Fs.cells.eq_1; simp only [fitsT, List.take_zero, List.length_nil, sp_cons, sp_nil, upd_b, Nat.reduceBEq, cond_true, cond_false, args0_zero, args0_succ, args0_nil, tE]; repeat' first | exact trivial | apply And.intro | exact Sub.refl _ | exact Sub.cap)
              | false =>
                rw [hur] at hwe
                rw [Fr.cells, hur] at h13u
                rw [hur] at hnext
                have tE := And.intro (@upd_upd AV) <| And.intro (@upd_upd (Option Blk)) <| And.intro g0 <| And.intro g1 <| And.intro g2 <| And.intro hr <| And.intro hrs <| And.intro hw <| And.intro e0 <| And.intro et <| And.intro eb <| And.intro b4 <| And.intro hfu <| And.intro hwe <| And.intro hur <| And.intro Fs.cells.eq_1 <| And.intro frRows_len <| And.intro ty3 <| And.intro ty4 <| And.intro ty5 <| And.intro ty23 <| And.intro ty24 <| And.intro ty26 <| And.intro ty29 <| And.intro ty34 <| And.intro ty35 <| And.intro ty37 <| Try.results3; repeat' first | ((with_reducible first | apply w_seq | apply w_region | apply wl_nil | apply wr_nil | apply wr_nilA | apply wr_nilE | apply go_normal | apply go_ret | apply go_exit | apply blk_normal | apply blk_ret | apply blk_here | apply w_block | apply w_skip | apply w_exit | apply w_label)) | ((with_reducible apply w_live (lvAt [[0, 1], [2, 3], [2, 3, 5], [5], [2, 3, 5], [2, 3, 5, 6, 7, 8], [2, 3, 5, 6, 7, 8, 9, 10], [2, 3, 5, 6, 7, 8, 9, 10, 11], [2, 3, 5, 6, 7, 8, 9, 10, 11], [2, 3, 5, 6, 7, 8, 9, 10, 11], [2, 3, 5, 6, 7, 8, 10, 11], [2, 3, 5, 6, 7, 8, 9, 10, 11], [2, 3, 5, 6, 7, 8, 9, 10], [5, 8, 9], [2, 3, 5, 6, 7, 9, 10], [], [2, 3, 5, 6], [2, 3, 5, 6, 12], [2, 3, 5, 6, 12], [2, 3, 5, 6, 12, 13], [2, 3, 5, 6, 12, 13], [2, 3, 5, 6, 12, 13], [], [2, 3, 5, 6, 12, 13], [2, 3, 5, 6, 12]])); (focus (simp only [lvAt_zero, lvAt_succ]; rfl)); exact zLv) | ((with_reducible first | apply wz (tok Try.prog) | apply wr_z (tok Try.prog)); exact zZ; decide) | ((with_reducible first | apply wzg (tok Try.prog) | apply wr_zg (tok Try.prog)); exact zU; exact zL; exact zU; exact zZ; decide) | ((with_reducible first | apply wskip' | apply wr_skip); exact zU; exact zL; exact zU; decide) | ((with_reducible first | apply wcall' | apply wr_call); exact zV; exact zVs; exact zAs; (focus (with_unfolding_all first | exact h13u)); decide) | ((with_reducible first | apply w_ift'); exact zV; exact zU) | ((with_reducible first | apply w_iff'); exact zV; exact zU) | ((with_reducible first | apply fm_nil | apply fm_cons)) | ((with_reducible apply m_next); exact zU) | ((with_reducible apply m_nil0); exact zU) | ((with_reducible first | apply m_v (tok Try.prog)); exact zU; exact zZ; decide) | ((with_reducible first | apply m_xA (tok Try.prog)); exact zU; exact zI; decide) | ((with_reducible first | apply m_x (tok Try.prog)); exact zU; (focus (decide +kernel)); exact zZ; decide) | ((with_reducible first | apply m_chg0); exact zU; (focus ((with_reducible apply c_store (tok Try.prog)); exact zV; exact zV; exact zS))) | ((with_reducible apply w_drawN (id := 23) [11] [([11], [0, 1, 2, 3, 4, 5, 6, 7, 8, 9, 10, 11])] mixed); (focus (decide +kernel))) | ((with_reducible first | apply w_draw0 mixed); (focus (decide +kernel))) | fail
                all_goals try clear tE
                refine ⟨i + 1, by omega, ⟨by omega, hnext⟩, rfl, ?_⟩
                (have tE := And.intro (@upd_upd AV) <| And.intro (@upd_upd (Option Blk)) <| And.intro hw <| Fs.cells.eq_1; simp only [fitsT, List.take_zero, List.length_nil, sp_cons, sp_nil, upd_b, Nat.reduceBEq, cond_true, cond_false, args0_zero, args0_succ, args0_nil, tE]; repeat' first | exact trivial | apply And.intro | exact Sub.refl _ | exact Sub.cap)
          · have g1 : ((i : Int) < (f.l.length : Int)) = False := by simp; omega
            have ei : i = f.l.length := by omega
            subst ei
            have emx : mixed_ f.l s f.l.length = f.l := by rw [mixed_, List.take_length, List.drop_of_length_le (by omega), List.append_nil]
            rw [emx] at eb
            have hl15 : AC Try.prog 15 [.agg [.slice b 0 f.l.length none 6, .int .i64 f.h], .agg f.cells] H k (fun r h' n' => r = .ret (.bool (sameF f f)) ∧ h' = H ∧ n' = k) := by
              refine PF.look h15 (.bool _) H k (.cons (Own.fz (S := fun _ => True) (OwnF.own (.inr ⟨by omega, b, m, trivial, rfl, eb, hI.own.1, fun j u v hu hv => ?_⟩))) (.cons (.pur (fsa_pur f)) .nil))
              exact (hI.own.2 j u v hu hv).mono (fun _ h => ⟨trivial, h.2.1⟩) (fun _ _ _ h => h)
            have tE := And.intro (@upd_upd AV) <| And.intro (@upd_upd (Option Blk)) <| And.intro g1 <| And.intro e0 <| And.intro et <| And.intro hsame <| And.intro evx <| And.intro Cf.cells.eq_1 <| And.intro Fs.cells.eq_1 <| And.intro frRows_len <| And.intro ty3 <| And.intro ty4 <| And.intro ty5 <| And.intro ty23 <| And.intro ty24 <| And.intro ty26 <| And.intro ty29 <| And.intro ty34 <| And.intro ty35 <| And.intro ty37 <| Try.results3; repeat' first | ((with_reducible first | apply w_seq | apply w_region | apply wl_nil | apply wr_nil | apply wr_nilA | apply wr_nilE | apply go_normal | apply go_ret | apply go_exit | apply blk_normal | apply blk_ret | apply blk_here | apply w_block | apply w_skip | apply w_exit | apply w_label)) | ((with_reducible first | apply wz (tok Try.prog) | apply wr_z (tok Try.prog)); exact zZ; decide) | ((with_reducible first | apply wzg (tok Try.prog) | apply wr_zg (tok Try.prog)); exact zU; exact zL; exact zU; exact zZ; decide) | ((with_reducible first | apply wcallg' | apply wr_callg); exact zU; exact zL; exact zU; exact zV; exact zVs; exact zAs; (focus (with_unfolding_all first | exact h11x)); decide) | ((with_reducible first | apply wacallg'); exact zU; exact zL; exact zU; exact zV; exact zVs; exact zAs; (focus (first | exact ⟨_, Try.func15, rfl, rfl⟩)); (focus (with_unfolding_all first | exact hl15)); decide) | ((with_reducible first | apply w_iff'); exact zV; exact zU) | ((with_reducible apply w_ret); (repeat (with_reducible first | apply go_ret | apply blk_ret)); (with_reducible apply done_ret (tok Try.prog)); exact zT; exact zD; exact zX) | fail
            all_goals try clear tE
            all_goals rfl
theorem pf3 (c : Cf) (f : Fs) : PF Try.prog 3 [.agg c.cells, .agg f.cells] (fun r => r = .bool true) := by
  cases hg : greatF f.l with
  | true => exact pf3_great c f hg
  | false =>
    cases hok : okF c f with
    | false => exact pf3_bad c f hg hok
    | true =>
      cases hv : vic f.l f.h.toNat with
      | none => exact pf3_none c f hg hok hv
      | some i => exact pf3_some c f hg hok i hv
end Go.Proofs.Ytlmighkbeacjnaa
