/- The examples that each law of the pool asks first: they hold. -/
import Derived.Test.YtlmighkbeacjnaaGreatDoorLm5
import Derived.Test.YtlmighkbeacjnaaGreatDoorYi
import Derived.Test.YtlmighkbeacjnaaGreatDoorHA
import Derived.Test.YtlmighkbeacjnaaGreatDoorYf
import Derived.Test.YtlmighkbeacjnaaGreatDoorT1
import Derived.KernelRfl
open Go Go.Lg
set_option linter.unusedSimpArgs false
set_option linter.unusedVariables false
set_option maxHeartbeats 8000000
set_option maxRecDepth 20000
namespace Go.Proofs.YtlmighkbeacjnaaGreatDoor
theorem tkAL : TOK Tryz.prog (tyOf Tryz.prog) := tok Tryz.prog
def xC : Cf := ⟨4, 1, 2, 1, 4, 1, 1, 2, 4⟩
def xF0 : Fs := ⟨[⟨0, 0, [], [0], false, false⟩], 0⟩
def xF1 : Fs := ⟨[⟨1, 1, [], [1], true, false⟩], 0⟩
def xF2 : Fs := ⟨[⟨2, 1, [7], [1], true, false⟩], 0⟩
def xU : Un := ⟨1, 1, 0, []⟩
theorem ac_args {P : Program} {f : FuncId} {xs bs : List AV} {H : Heap} {n : Nat} {Q : AR → Heap → Nat → Prop} (h : AC P f bs H n Q) (hs : Subs xs bs) : AC P f xs H n Q := fun K vs hn hr hv => h K vs hn hr (hs.VRs hv)
theorem tog_nil {f : Fs} (h : ∀ x, x ∈ f.l → x.k ≠ 1) : Tog f [] := ⟨fun i j u v _ hu => by simp at hu, fun i u hu => by simp at hu, fun i x hx hk => absurd hk (h x (List.mem_of_getElem? hx))⟩
theorem x_do1 : doE xC xF0 [] 0 ⟨1, 1, []⟩ = 0 ∧ doP xC xF0 [] 0 ⟨1, 1, []⟩ = ⟨xF1, [xU], 0, [], 1, false⟩ := by
  have h8 : eT xC xF0 [] = 0 := eT_ok ⟨by kernel_rfl, by kernel_rfl, tog_nil (fun x hx => by rcases List.mem_singleton.1 hx with rfl; decide)⟩
  have h1 : doE xC xF0 [] 0 ⟨1, 1, []⟩ = 0 := by rw [doE, if_pos h8, if_pos ⟨by kernel_rfl, by decide, by decide⟩]
  refine ⟨h1, ?_⟩
  rw [doP, if_pos h1]
  kernel_rfl
theorem x_do2 : doE xC xF2 [] 0 ⟨2, 1, []⟩ = 0 ∧ doP xC xF2 [] 0 ⟨2, 1, []⟩ = ⟨xF2, [], 0, [7], 0, false⟩ := by
  have h8 : eT xC xF2 [] = 0 := eT_ok ⟨by kernel_rfl, by kernel_rfl, tog_nil (fun x hx => by rcases List.mem_singleton.1 hx with rfl; decide)⟩
  have h1 : doE xC xF2 [] 0 ⟨2, 1, []⟩ = 0 := by rw [doE, if_pos h8, if_pos ⟨by kernel_rfl, by decide, by decide⟩]
  refine ⟨h1, ?_⟩
  rw [doP, if_pos h1]
  kernel_rfl
theorem x_small {f : Fs} (h : f.l.all (fun x => decide (x.d.length ≤ 1000000 ∧ x.pins.length ≤ 1000000)) = true) : ∀ x, x ∈ f.l → x.d.length ≤ 1000000 ∧ x.pins.length ≤ 1000000 := fun x hx => by
  simpa using List.all_eq_true.1 h x hx
theorem pf25 : PF Tryz.prog 25 [] (fun r => r = .agg xC.cells) := by
  refine pf_of_w0 Tryz.func25 (c := _) rfl rfl (Nat.le_of_ble_eq_true rfl) (fun x hx => by cases hx) ?_
  rw [show Tryz.f25.ntmps = 2 from rfl]
  have tE := aI uU <| aI ty3 <| aI ty23 <| Tryz.results25; repeat' first | (refine Red.h ?_) | ((with_reducible first | apply wz tkAL | apply wr_z tkAL); exact zZ; decide) | ((with_reducible first | apply w_alloc tkAL); exact zT; decide) | ((with_reducible first | apply w_store tkAL); exact zV; exact zV; exact zS) | ((with_reducible apply w_ret); (repeat refine Red.h ?_); (with_reducible apply done_ret tkAL); exact zT; exact zD; exact zX) | fail
  all_goals try clear tE
  rfl
theorem pf26 (p : Int) : PF Tryz.prog 26 [.int .i64 p] (fun r => r = .agg (Ca.cells ⟨1, p, []⟩)) := by
  refine pf_of_wf0 Tryz.func26 (c := _) rfl rfl (Nat.le_of_ble_eq_true rfl) (args_1 (.int _ _)) ?_
  rw [show Tryz.f26.ntmps = 5 from rfl]
  have tE := aI uU <| aI ty3 <| aI ty5 <| aI ty28 <| aI ty30 <| Tryz.results26; repeat' first | (refine Red.h ?_) | ((with_reducible first | apply wz tkAL | apply wr_z tkAL); exact zZ; decide) | ((with_reducible first | apply w_alloc tkAL); exact zT; decide) | ((with_reducible first | apply w_store tkAL); exact zV; exact zV; exact zS) | ((with_reducible apply w_ret); (repeat refine Red.h ?_); (with_reducible first | apply donef_ret tkAL | apply doneA_ret tkAL); exact zT; exact zD) | fail
  all_goals try clear tE
  · exact FzL.agg (ys := Ca.cells ⟨1, p, []⟩) (.cons (.pur (.int _ _)) (.cons (.pur (.int _ _)) (.cons .nothing .nil)))
  · exact .agg (ca_pur ⟨1, p, []⟩)
  · rfl
theorem ac24 [GO] (hgo : GoOK) (H : Heap) (n : Nat) (h0 : H 0 = some (.glob 0 (GO.o 0))) (hn : 0 < n) : AC Tryz.prog 24 [] H n (fun r H' n' => r = .ret (.tuple [.agg xF2.cells, .bool true]) ∧ H' = H ∧ n' = n) := by
  have h25 := pf25
  have h26 := pf26 1
  have h52 := (nf52 xC).pf
  rw [show newF xC = xF0 by kernel_rfl, show newE xC = 0 by kernel_rfl] at h52
  have h11 : ∀ (H : Heap) (n : Nat), H 0 = some (.glob 0 (GO.o 0)) → 0 < n → AC Tryz.prog 11 [.agg xC.cells, .agg xF0.cells, .empty, .int .i64 0, .agg (Ca.cells ⟨1, 1, []⟩)] H n (fun r H' n' => r = .ret (.tuple [.agg (doP xC xF0 [] 0 ⟨1, 1, []⟩).cells, .int .i64 (doE xC xF0 [] 0 ⟨1, 1, []⟩)]) ∧ H' = H ∧ n' = n) := fun H n h0 hn =>
    ac_args (ac11 hgo xC xF0 [] 0 ⟨1, 1, []⟩ (by decide) (x_small (by decide)) (by decide) (fun u hu => by cases hu) (by decide) H n h0 hn) (.cons (.refl _) (.cons (.refl _) (.cons .empty (.cons (.refl _) (.cons (.refl _) .nil)))))
  rw [x_do1.1, x_do1.2] at h11
  have h31 := pf31 xC [xU] (by decide) (fun u hu => by rcases List.mem_singleton.1 hu with rfl; decide)
  rw [show takU xC [xU] = [] by kernel_rfl, show tak1 xC [xU] = xU by kernel_rfl, show takE xC [xU] = 0 by kernel_rfl] at h31
  have h32 := (nf32 xC xF1 xU [7] (by decide) (x_small (by decide)) (by decide)).pf
  rw [show srvF xC xF1 xU [7] = xF2 by kernel_rfl, show srvE xC xF1 xU [7] = 0 by kernel_rfl] at h32
  refine ac_norm (.tuple (args_2 (fsa_pur xF2) (.bool _))) (ac_of_w Tryz.func24 (c := _) rfl (Nat.le_of_ble_eq_true rfl) ?_)
  rw [show Tryz.f24.ntmps = 71 from rfl]
  have hL0 := h0
  have hc := cf_pur xC
  have hz : (unRows ([] : List Un)).length = 0 := rfl
  simp only [Po.cells, Fs.cells, Ca.cells, Un.cells, dnC] at h11 h52 h26 h31 h32
  have q01 : (n == n + 1) = false := by rw [beq_eq_false_iff_ne]; omega
  have q02 : (n == n + 1 + 1) = false := by rw [beq_eq_false_iff_ne]; omega
  have q03 : (n == n + 1 + 1 + 1) = false := by rw [beq_eq_false_iff_ne]; omega
  have q04 : (n == n + 1 + 1 + 1 + 1) = false := by rw [beq_eq_false_iff_ne]; omega
  have q10 : (n + 1 == n) = false := by rw [beq_eq_false_iff_ne]; omega
  have q12 : (n + 1 == n + 1 + 1) = false := by rw [beq_eq_false_iff_ne]; omega
  have q13 : (n + 1 == n + 1 + 1 + 1) = false := by rw [beq_eq_false_iff_ne]; omega
  have q14 : (n + 1 == n + 1 + 1 + 1 + 1) = false := by rw [beq_eq_false_iff_ne]; omega
  have q20 : (n + 1 + 1 == n) = false := by rw [beq_eq_false_iff_ne]; omega
  have q21 : (n + 1 + 1 == n + 1) = false := by rw [beq_eq_false_iff_ne]; omega
  have q23 : (n + 1 + 1 == n + 1 + 1 + 1) = false := by rw [beq_eq_false_iff_ne]; omega
  have q24 : (n + 1 + 1 == n + 1 + 1 + 1 + 1) = false := by rw [beq_eq_false_iff_ne]; omega
  have q30 : (n + 1 + 1 + 1 == n) = false := by rw [beq_eq_false_iff_ne]; omega
  have q31 : (n + 1 + 1 + 1 == n + 1) = false := by rw [beq_eq_false_iff_ne]; omega
  have q32 : (n + 1 + 1 + 1 == n + 1 + 1) = false := by rw [beq_eq_false_iff_ne]; omega
  have q34 : (n + 1 + 1 + 1 == n + 1 + 1 + 1 + 1) = false := by rw [beq_eq_false_iff_ne]; omega
  have q40 : (n + 1 + 1 + 1 + 1 == n) = false := by rw [beq_eq_false_iff_ne]; omega
  have q41 : (n + 1 + 1 + 1 + 1 == n + 1) = false := by rw [beq_eq_false_iff_ne]; omega
  have q42 : (n + 1 + 1 + 1 + 1 == n + 1 + 1) = false := by rw [beq_eq_false_iff_ne]; omega
  have q43 : (n + 1 + 1 + 1 + 1 == n + 1 + 1 + 1) = false := by rw [beq_eq_false_iff_ne]; omega
  have tE := aI uU <| aI hz <| aI q01 <| aI q02 <| aI q03 <| aI q04 <| aI q10 <| aI q12 <| aI q13 <| aI q14 <| aI q20 <| aI q21 <| aI q23 <| aI q24 <| aI q30 <| aI q31 <| aI q32 <| aI q34 <| aI q40 <| aI q41 <| aI q42 <| aI q43 <| aI ty3 <| aI ty4 <| aI ty5 <| aI ty24 <| aI ty26 <| aI ty27 <| aI ty28 <| aI ty34 <| aI ty36 <| aI ty58 <| aI ty69 <| aI ty72 <| aI ty74 <| Tryz.results24; repeat' first | (refine Red.h ?_) | ((with_reducible apply w_live (lvAt [[], [0], [0, 2, 3], [0, 3, 4, 5], [0, 3, 4, 5, 6, 7, 8], [0, 3, 4, 5, 6, 8, 9, 10]])); (focus (simp only [lvAt_zero, lvAt_succ]; rfl)); exact zLv) | ((with_reducible first | apply wz tkAL | apply wr_z tkAL); exact zZ; decide) | ((with_reducible first | apply wzg tkAL | apply wr_zg tkAL); exact zU; exact zL; exact zU; exact zZ; decide) | ((with_reducible first | apply w_alloc tkAL); exact zT; decide) | ((with_reducible first | apply w_store tkAL); exact zV; exact zV; exact zS) | ((with_reducible first | apply wcall' | apply wr_call); exact zV; exact zVs; exact zAs; (focus (with_unfolding_all first | exact h25 | exact h26 | exact h52 | exact h31 | exact h32)); decide) | ((with_reducible first | apply m_calle); exact zU; exact zV; exact zVs; exact zAs; (focus (first | exact ⟨_, Tryz.func11, rfl, rfl⟩)); (focus (with_unfolding_all first | exact h11 _ _ zLk (by omega))); decide) | ((with_reducible first | apply fm_nil | apply fm_cons)) | ((with_reducible apply m_next); exact zU) | ((with_reducible apply m_nil0); exact zU) | ((with_reducible first | apply m_v tkAL); exact zU; exact zZ; decide) | ((with_reducible first | apply m_xA tkAL); exact zU; exact zI; decide) | ((with_reducible first | apply m_x tkAL); exact zU; (focus (decide +kernel)); exact zZ; decide) | ((with_reducible first | apply m_xo tkAL); exact zU; exact zZ; decide) | ((with_reducible apply m_nilO); exact zU; (focus (simp only [List.reverse_cons, List.reverse_nil, List.nil_append, List.cons_append]; rfl)); (focus (simp only [OwedAll, Owed, Nat.reduceAdd]; (repeat' apply And.intro); all_goals first | exact trivial | (intro h; exact absurd h (by decide +kernel)) | (intro _; exact zW)))) | ((with_reducible first | apply m_chg); exact zU; (focus (first | ((with_reducible apply c_alloc tkAL); exact zT) | ((with_reducible apply c_ap); (focus (first | (intro _ ho _ hr _; (with_reducible apply ap_new tkAL ho (hr := hr)); exact zT; exact zU; exact zT; exact zT; exact zU; exact zA; exact zV; exact zK; exact zM; exact zK; exact zK; decide) | (intro _ ho _ hr _; (with_reducible apply ap_own tkAL ho (hr := hr)); exact zT; exact zU; exact zT; exact zT; exact zU; exact zV; exact zV; exact zH; exact zKo; exact zM; (focus (first | rfl | assumption)); exact zKo; exact zKo; decide)))))); decide) | ((with_reducible first | apply m_chg0); exact zU; (focus ((with_reducible apply c_store tkAL); exact zV; exact zV; exact zS))) | ((with_reducible first | apply m_call); exact zU; exact zV; exact zVs; exact zAs; (focus (with_unfolding_all first | exact h25 | exact h26 | exact h52 | exact h31 | exact h32)); decide) | ((with_reducible first | apply m_p); exact zU; (focus (first | ((with_reducible first | apply pure_bs1 tkAL); exact zT; exact zU; exact zT; exact zP; exact zR; exact zC; decide; decide; exact zU; exact zU) | ((with_reducible first | apply pure_bs1 tkAL); exact zT; exact zU; exact zT; exact zP; exact zR; exact zC; decide; decide; exact zU; exact zU))); decide) | ((with_reducible apply w_drawN (id := 2) [3, 7, 8] [([3, 7, 8], [0, 1, 2, 3, 7, 4, 5, 8, 6, 9]), ([7, 3, 8], [7, 0, 1, 2, 3, 4, 5, 8, 6, 9])] mixed); (focus (decide +kernel))) | ((with_reducible apply w_drawN (id := 3) [8, 10] [([8, 10], [8, 0, 1, 2, 3, 4, 6, 5, 9, 10, 7, 11])] mixed); (focus (decide +kernel))) | ((with_reducible apply w_drawN (id := 4) [10, 11] [([10, 11], [10, 0, 1, 2, 3, 4, 5, 6, 7, 8, 11, 9, 12])] mixed); (focus (decide +kernel))) | ((with_reducible apply w_ret); (repeat refine Red.h ?_); (with_reducible first | apply donef_ret tkAL | apply doneA_ret tkAL); exact zT; exact zD) | fail
  all_goals try clear tE
  all_goals exact ⟨_, rfl, .pur (.tuple (args_2 (fsa_pur xF2) (.bool _))), fun id hid => by repeat rw [upd_ne _ _ (by omega)]⟩
theorem ac28 [GO] (hgo : GoOK) (H : Heap) (n : Nat) (h0 : H 0 = some (.glob 0 (GO.o 0))) (hn : 0 < n) : AC Tryz.prog 28 [] H n (fun r H' n' => r = .ret (.bool true) ∧ H' = H ∧ n' = n) := by
  have h25 := pf25
  have h24 := ac24 hgo H n h0 hn
  have h11 : ∀ (H : Heap) (n : Nat), H 0 = some (.glob 0 (GO.o 0)) → 0 < n → AC Tryz.prog 11 [.agg xC.cells, .agg xF2.cells, .empty, .int .i64 0, .agg [.int .u8 2, .int .i64 1, .empty]] H n (fun r H' n' => r = .ret (.tuple [.agg (doP xC xF2 [] 0 ⟨2, 1, []⟩).cells, .int .i64 (doE xC xF2 [] 0 ⟨2, 1, []⟩)]) ∧ H' = H ∧ n' = n) := fun H n h0 hn =>
    ac_args (ac11 hgo xC xF2 [] 0 ⟨2, 1, []⟩ (by decide) (x_small (by decide)) (by decide) (fun u hu => by cases hu) (by decide) H n h0 hn) (.cons (.refl _) (.cons (.refl _) (.cons .empty (.cons (.refl _) (.cons (Sub.agg (.cons (.refl _) (.cons (.refl _) (.cons .empty .nil)))) .nil)))))
  rw [x_do2.1, x_do2.2] at h11
  have h23 := pf23 [7] [7]
  rw [decide_eq_true rfl] at h23
  refine ac_norm (.bool _) (ac_of_w Tryz.func28 (c := _) rfl (Nat.le_of_ble_eq_true rfl) ?_)
  rw [show Tryz.f28.ntmps = 32 from rfl]
  have hL0 := h0
  simp only [Po.cells, Fs.cells] at h11 h24
  have q01 : (n == n + 1) = false := by rw [beq_eq_false_iff_ne]; omega
  have q02 : (n == n + 1 + 1) = false := by rw [beq_eq_false_iff_ne]; omega
  have q10 : (n + 1 == n) = false := by rw [beq_eq_false_iff_ne]; omega
  have q12 : (n + 1 == n + 1 + 1) = false := by rw [beq_eq_false_iff_ne]; omega
  have q20 : (n + 1 + 1 == n) = false := by rw [beq_eq_false_iff_ne]; omega
  have q21 : (n + 1 + 1 == n + 1) = false := by rw [beq_eq_false_iff_ne]; omega
  have tE := aI uU <| aI q01 <| aI q02 <| aI q10 <| aI q12 <| aI q20 <| aI q21 <| aI ty3 <| aI ty4 <| aI ty5 <| aI ty24 <| aI ty26 <| aI ty27 <| aI ty28 <| aI ty30 <| aI ty34 <| aI ty36 <| aI ty58 <| aI ty72 <| aI ty74 <| Tryz.results28; repeat' first | (refine Red.h ?_) | ((with_reducible apply w_live (lvAt [[], [], [1, 2], [2, 3, 4]])); (focus (simp only [lvAt_zero, lvAt_succ]; rfl)); exact zLv) | ((with_reducible first | apply wz tkAL | apply wr_z tkAL); exact zZ; decide) | ((with_reducible first | apply wzg tkAL | apply wr_zg tkAL); exact zU; exact zL; exact zU; exact zZ; decide) | ((with_reducible first | apply w_alloc tkAL); exact zT; decide) | ((with_reducible first | apply w_store tkAL); exact zV; exact zV; exact zS) | ((with_reducible first | apply wcallg' | apply wr_callg); exact zU; exact zL; exact zU; exact zV; exact zVs; exact zAs; (focus (with_unfolding_all first | exact h25 | exact h23)); decide) | ((with_reducible first | apply wpg | apply wr_pg); exact zU; exact zL; exact zU; (focus (first | ((with_reducible first | apply pure_bs1 tkAL); exact zT; exact zU; exact zT; exact zP; exact zR; exact zC; decide; decide; exact zU; exact zU))); decide) | ((with_reducible first | apply wacall'); exact zV; exact zVs; exact zAs; (focus (first | exact ⟨_, Tryz.func11, rfl, rfl⟩ | exact ⟨_, Tryz.func24, rfl, rfl⟩)); (focus (with_unfolding_all first | exact h24 | exact h11 _ _ zLk (by omega))); decide) | ((with_reducible first | apply m_calle); exact zU; exact zV; exact zVs; exact zAs; (focus (first | exact ⟨_, Tryz.func11, rfl, rfl⟩ | exact ⟨_, Tryz.func24, rfl, rfl⟩)); (focus (with_unfolding_all first | exact h24 | exact h11 _ _ zLk (by omega))); decide) | ((with_reducible first | apply fm_nil | apply fm_cons)) | ((with_reducible apply m_next); exact zU) | ((with_reducible apply m_nil0); exact zU) | ((with_reducible first | apply m_v tkAL); exact zU; exact zZ; decide) | ((with_reducible first | apply m_xA tkAL); exact zU; exact zI; decide) | ((with_reducible first | apply m_x tkAL); exact zU; (focus (decide +kernel)); exact zZ; decide) | ((with_reducible first | apply m_xo tkAL); exact zU; exact zZ; decide) | ((with_reducible apply m_nilO); exact zU; (focus (simp only [List.reverse_cons, List.reverse_nil, List.nil_append, List.cons_append]; rfl)); (focus (simp only [OwedAll, Owed, Nat.reduceAdd]; (repeat' apply And.intro); all_goals first | exact trivial | (intro h; exact absurd h (by decide +kernel)) | (intro _; exact zW)))) | ((with_reducible first | apply m_chg); exact zU; (focus (first | ((with_reducible apply c_alloc tkAL); exact zT) | ((with_reducible apply c_ap); (focus (first | (intro _ ho _ hr _; (with_reducible apply ap_new tkAL ho (hr := hr)); exact zT; exact zU; exact zT; exact zT; exact zU; exact zA; exact zV; exact zK; exact zM; exact zK; exact zK; decide) | (intro _ ho _ hr _; (with_reducible apply ap_own tkAL ho (hr := hr)); exact zT; exact zU; exact zT; exact zT; exact zU; exact zV; exact zV; exact zH; exact zKo; exact zM; (focus (first | rfl | assumption)); exact zKo; exact zKo; decide)))))); decide) | ((with_reducible first | apply m_chg0); exact zU; (focus ((with_reducible apply c_store tkAL); exact zV; exact zV; exact zS))) | ((with_reducible first | apply m_call); exact zU; exact zV; exact zVs; exact zAs; (focus (with_unfolding_all first | exact h25 | exact h23)); decide) | ((with_reducible apply w_drawN (id := 2) [3, 7, 8] [([3, 7, 8], [0, 1, 2, 3, 7, 4, 5, 8, 6, 9]), ([7, 3, 8], [7, 0, 1, 2, 3, 4, 5, 8, 6, 9])] mixed); (focus (decide +kernel))) | ((with_reducible apply w_ret); (repeat refine Red.h ?_); (with_reducible first | apply donef_ret tkAL | apply doneA_ret tkAL); exact zT; exact zD) | fail
  all_goals try clear tE
  all_goals exact ⟨_, rfl, .pur (.bool _), fun id hid => by repeat rw [upd_ne _ _ (by omega)]⟩
end Go.Proofs.YtlmighkbeacjnaaGreatDoor

