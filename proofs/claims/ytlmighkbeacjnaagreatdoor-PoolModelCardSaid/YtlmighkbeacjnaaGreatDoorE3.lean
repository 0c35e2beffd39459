/- Equal units, equal queues. -/
import Derived.Test.YtlmighkbeacjnaaGreatDoorLm5
import Derived.Test.YtlmighkbeacjnaaGreatDoorYb
open Go Go.Lg
set_option linter.unusedSimpArgs false
set_option linter.unusedVariables false
set_option maxHeartbeats 4000000
namespace Go.Proofs.YtlmighkbeacjnaaGreatDoor
theorem tkE3 : TOK Tryz.prog (tyOf Tryz.prog) := tok Tryz.prog
def tfE31 := PLift.up (aI ty3 <| aI ty4 <| aI ty5 <| aI ty27 <| aI ty28 <| aI ty58 <| Tryz.results22)
theorem un_eq (u v : Un) : u = v ↔ u.k = v.k ∧ u.p = v.p ∧ u.f = v.f ∧ u.d = v.d := by
  cases u; cases v; simp
theorem args_uu (u v : Un) : ∀ x, x ∈ [AV.agg u.cells, AV.agg v.cells] → Pur x := by
  intro x hx
  simp only [List.mem_cons, List.not_mem_nil, or_false] at hx
  rcases hx with rfl | rfl
  · exact .agg (un_pur u)
  · exact .agg (un_pur v)
theorem pf27 (u v : Un) : PF Tryz.prog 27 [.agg u.cells, .agg v.cells] (fun r => r = .bool (decide (u = v))) := by
  refine pf_of_w0 Tryz.func27 (c := _) rfl rfl (Nat.le_of_ble_eq_true rfl) (args_uu u v) ?_
  rw [show Tryz.f27.ntmps = 33 from rfl]
  have tE := aI uU <| aI Un.cells.eq_1 <| aI ty3 <| aI ty5 <| aI ty9 <| aI ty28 <| aI ty58 <| Tryz.results27; repeat' first | (refine Red.h ?_) | ((with_reducible first | apply wz tkE3 | apply wr_z tkE3); exact zZ; decide) | ((with_reducible first | apply wzg tkE3 | apply wr_zg tkE3); exact zU; exact zL; exact zU; exact zZ; decide) | ((with_reducible first | apply wskip' | apply wr_skip); exact zU; exact zL; exact zU; decide) | ((with_reducible first | apply wpg | apply wr_pg); exact zU; exact zL; exact zU; (focus (first | ((with_reducible first | apply p_slv tkE3); exact zT; exact zU; exact zT; exact zV; exact zN; exact zN; (focus (first | exact zU | exact zB)); (focus (first | exact zU | exact zB)); (focus (first | exact zU | assumption))) | ((with_reducible first | apply p_slo tkE3); exact zT; exact zU; exact zT; exact zV; exact zN; exact zN; (focus (first | exact zU | exact zB)); (focus (first | exact zU | exact zB)); (focus (first | exact zU | assumption))) | ((with_reducible first | apply p_nil tkE3 | apply p_nnil tkE3); exact zT; exact zV; exact zU) | ((with_reducible first | apply p_bs0 tkE3); exact zT; exact zU; exact zT) | ((with_reducible first | apply p_ap0 tkE3); exact zT; exact zU; exact zT; exact zT; exact zU; exact zA; exact zV; (focus (first | exact Or.inl rfl | exact Or.inr rfl))) | ((with_reducible first | apply p_bytes tkE3); exact zT; exact zU; exact zT; exact zU; exact zT; exact zU; exact zV))); decide) | ((with_reducible first | apply wsplit | apply wr_split); exact zU; exact zL; constructor <;> intro _) | ((with_reducible apply w_ret); (repeat refine Red.h ?_); (with_reducible apply done_ret tkE3); exact zT; exact zD; exact zX) | fail
  all_goals try clear tE
  all_goals first | (simp_all [tup, un_eq]; done) | (simp_all [tup, un_eq]; rw [Bool.eq_iff_iff]; simp)
theorem pf22 (a b : List Un) (ha : a.length ≤ 1000000) : PF Tryz.prog 22 [.view (unRows a), .view (unRows b)] (fun r => r = .bool (decide (a = b))) := by
  refine pf_of_w0 Tryz.func22 (c := _) rfl rfl (Nat.le_of_ble_eq_true rfl) (args_ll a b) ?_
  rw [show Tryz.f22.ntmps = 27 from rfl]
  by_cases el : a.length = b.length
  · have hne : ((a.length : Int) != (b.length : Int)) = false := by simp [el]
    have tE := aI uU <| aI hne <| aI unRows_len <| tfE31.down; repeat' first | (refine Red.h ?_) | ((with_reducible first | apply wz tkE3 | apply wr_z tkE3); exact zZ; decide) | ((with_reducible first | apply w_iff'); exact zV; exact zU) | fail
    all_goals try clear tE
    refine w_loopS (S := Nat) (fun i => [(0, .view (unRows a)), (1, .view (unRows b)), (5, .int .i64 (i : Int))]) (fun _ => []) [] (fun i => i ≤ a.length ∧ a.take i = b.take i) (fun i => a.length - i) 0 ?_ ⟨Nat.zero_le _, rfl⟩ ?_
    · (have tu0 : Pur _ := unRows_pur a; have tu1 : Pur _ := unRows_pur b; have tE := uU; exact kcanS [])
    · rintro i ⟨hi, ht⟩
      simp only [St.ofS, List.length_nil]
      by_cases e : i < a.length
      · obtain ⟨x, hx⟩ : ∃ x, a[i]? = some x := ⟨a[i], List.getElem?_eq_getElem e⟩
        obtain ⟨y, hy⟩ : ∃ y, b[i]? = some y := ⟨b[i]'(by omega), List.getElem?_eq_getElem _⟩
        have h1 : ((i : Int) < (a.length : Int)) = True := by simp; omega
        have h0 : (0 ≤ (i : Int)) = True := by simp
        have hr := un_row hx
        have hs := un_row hy
        have hw : IntKind.i64.wrap ((i : Int) + 1) = ((i + 1 : Nat) : Int) := by rw [wrap64 (by omega) (by omega)]; rfl
        by_cases hxy : x = y
        · have hb : decide (x = y) = true := by simp [hxy]
          have tE := aI uU <| aI h1 <| aI h0 <| aI hr <| aI hs <| aI hw <| aI hb <| aI unRows_len <| tfE31.down; repeat' first | (refine Red.h ?_) | ((with_reducible apply w_live (lvAt [[0, 1], [0, 1], [], [0, 1], [0, 1, 5], [0, 1, 5], [0, 1, 5], [], []])); (focus (simp only [lvAt_zero, lvAt_succ]; rfl)); exact zLv) | ((with_reducible first | apply wz tkE3 | apply wr_z tkE3); exact zZ; decide) | ((with_reducible first | apply wcall' | apply wr_call); exact zV; exact zVs; exact zAs; (focus (with_unfolding_all first | exact pf27 x y)); decide) | ((with_reducible first | apply w_ift'); exact zV; exact zU) | ((with_reducible first | apply w_iff'); exact zV; exact zU) | ((with_reducible first | apply w_draw0 mixed); (focus (decide +kernel))) | fail
          all_goals try clear tE
          refine ⟨i + 1, by omega, ⟨by omega, by rw [List.take_add_one, List.take_add_one, ht, hx, hy, hxy]⟩, ?_⟩
          (have tu0 : Pur _ := unRows_pur a; have tu1 : Pur _ := unRows_pur b; have tE := uU; exact kcanS [])
        · have hb : decide (x = y) = false := by simp [hxy]
          have tE := aI uU <| aI h1 <| aI h0 <| aI hr <| aI hs <| aI hw <| aI hb <| aI unRows_len <| tfE31.down; repeat' first | (refine Red.h ?_) | ((with_reducible apply w_live (lvAt [[0, 1], [0, 1], [], [0, 1], [0, 1, 5], [0, 1, 5], [0, 1, 5], [], []])); (focus (simp only [lvAt_zero, lvAt_succ]; rfl)); exact zLv) | ((with_reducible first | apply wz tkE3 | apply wr_z tkE3); exact zZ; decide) | ((with_reducible first | apply wcall' | apply wr_call); exact zV; exact zVs; exact zAs; (focus (with_unfolding_all first | exact pf27 x y)); decide) | ((with_reducible first | apply w_ift'); exact zV; exact zU) | ((with_reducible first | apply w_draw0 mixed); (focus (decide +kernel))) | ((with_reducible apply w_ret); (repeat refine Red.h ?_); (with_reducible apply done_ret tkE3); exact zT; exact zD; exact zX) | fail
          all_goals try clear tE
          have hab : a ≠ b := by rintro rfl; rw [hx] at hy; cases hy; exact hxy rfl
          simp [tup, hab]
      · have h1 : ((i : Int) < (a.length : Int)) = False := by simp; omega
        have e2 : i = a.length := by omega
        have tE := aI uU <| aI h1 <| aI unRows_len <| tfE31.down; repeat' first | (refine Red.h ?_) | ((with_reducible first | apply wz tkE3 | apply wr_z tkE3); exact zZ; decide) | ((with_reducible first | apply w_iff'); exact zV; exact zU) | ((with_reducible apply w_ret); (repeat refine Red.h ?_); (with_reducible apply done_ret tkE3); exact zT; exact zD; exact zX) | fail
        all_goals try clear tE
        subst e2
        have hab : a = b := by rw [List.take_length, List.take_of_length_le (by omega)] at ht; exact ht
        simp [tup, hab]
  · have hne : ((a.length : Int) != (b.length : Int)) = true := by simp; omega
    have tE := aI uU <| aI hne <| aI unRows_len <| tfE31.down; repeat' first | (refine Red.h ?_) | ((with_reducible first | apply wz tkE3 | apply wr_z tkE3); exact zZ; decide) | ((with_reducible first | apply w_ift'); exact zV; exact zU) | ((with_reducible apply w_ret); (repeat refine Red.h ?_); (with_reducible apply done_ret tkE3); exact zT; exact zD; exact zX) | fail
    all_goals try clear tE
    have hab : a ≠ b := fun h => el (by rw [h])
    simp [tup, hab]
end Go.Proofs.YtlmighkbeacjnaaGreatDoor

