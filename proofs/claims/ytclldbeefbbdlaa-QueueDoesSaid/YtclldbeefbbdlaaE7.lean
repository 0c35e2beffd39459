/- queue.Ahead. two, fetch, alive. QueueNames computes true. -/
import Derived.Test.YtclldbeefbbdlaaE6
open Go Go.Lg
set_option linter.unusedSimpArgs false
set_option linter.unusedVariables false
set_option maxHeartbeats 4000000
set_option maxRecDepth 20000
namespace Go.Proofs.Ytclldbeefbbdlaa
/-- The memory of Ahead's loop. -/
def HQ (a b : Int) (lb : LoopB) : Heap := upd (upd (upd (upd noHeap 0 (some (.cells [.int .i64 a] 3))) 1 (some (.cells [.int .i64 b] 25))) 2 (some .deferred)) 3 (some (.loop lb))
theorem heap_q1 {n : Nat} (hn : 4 ≤ n) (X0 X1 D L A L2 Y0 Y1 L3 : Option Blk) :
    upd (upd (upd (upd (upd (upd (upd (upd (upd (upd noHeap 0 X0) 1 X1) 2 D) 3 L) n A) 3 L2) 0 Y0) 1 Y1) n none) 3 L3 = upd (upd (upd (upd noHeap 0 Y0) 1 Y1) 2 D) 3 L3 := by
  funext i
  simp only [upd, noHeap]
  by_cases h3 : i = 3
  · simp [h3]
  · by_cases h4 : i = n
    · subst h4; simp [h3, show ¬ i = 0 by omega, show ¬ i = 1 by omega, show ¬ i = 2 by omega]
    · simp only [h3, h4, if_false]
      by_cases h1 : i = 1
      · simp [h1]
      · by_cases h0 : i = 0
        · simp [h0]
        · simp [h0, h1]
theorem heap_q0 {n : Nat} (hn : 4 ≤ n) (X0 X1 D L A L2 L3 : Option Blk) :
    upd (upd (upd (upd (upd (upd (upd (upd noHeap 0 X0) 1 X1) 2 D) 3 L) n A) 3 L2) n none) 3 L3 = upd (upd (upd (upd noHeap 0 X0) 1 X1) 2 D) 3 L3 := by
  funext i
  simp only [upd, noHeap]
  by_cases h3 : i = 3
  · simp [h3]
  · by_cases h4 : i = n
    · subst h4; simp [h3, show ¬ i = 0 by omega, show ¬ i = 1 by omega, show ¬ i = 2 by omega]
    · simp only [h3, h4, if_false]
theorem pf30_bad (c : Cf) (q : List Un) (d : Int) (hq : q.length ≤ 1000000) (h : qok c q = false) : PF Try.prog 30 [.agg c.cells, .view (unRows q), .int .i64 d] (fun r => r = .tuple [.int .i64 0, .int .i64 8]) := by
  have e1 : (if qok c q = true then (0 : Int) else 8) = 8 := if_neg (by rw [h]; simp)
  refine pf_of_w0 Try.func30 (c := _) rfl rfl (Nat.le_of_ble_eq_true rfl) (args_cli c q d) ?_
  rw [show Try.f30.ntmps = 27 from rfl]
  have tE := And.intro (@upd_upd AV) <| And.intro (@upd_upd (Option Blk)) <| And.intro Cf.cells.eq_1 <| And.intro e1 <| And.intro ty3 <| And.intro ty5 <| And.intro ty23 <| And.intro ty25 <| And.intro ty56 <| And.intro ty58 <| Try.results30; repeat' first | ((with_reducible first | apply w_seq | apply w_region | apply wl_nil | apply wr_nil | apply wr_nilA | apply wr_nilE | apply go_normal | apply go_ret | apply go_exit | apply blk_normal | apply blk_ret | apply blk_here | apply w_block | apply w_skip | apply w_exit | apply w_label)) | ((with_reducible first | apply wz (tok Try.prog) | apply wr_z (tok Try.prog)); exact zZ; decide) | ((with_reducible first | apply w_alloc (tok Try.prog)); exact zT; decide) | ((with_reducible first | apply w_store (tok Try.prog)); exact zV; exact zV; exact zS) | ((with_reducible first | apply wcall' | apply wr_call); exact zV; exact zVs; exact zAs; (focus (with_unfolding_all first | exact pf33 c q (by omega))); decide) | ((with_reducible first | apply w_ift'); exact zV; exact zU) | ((with_reducible apply w_ret); (repeat (with_reducible first | apply go_ret | apply blk_ret)); (with_reducible apply done_ret (tok Try.prog)); exact zT; exact zD; exact zX) | fail
  all_goals try clear tE
  rfl
theorem bkfn_pur (l : List Un) : Pur (.func (.func 94) [] [.vptr [.view (unRows l)]]) := by
  have hv := unRows_pur l
  rw [pur_func]
  refine ⟨fun _ h => (nomatch h), fun x hx => ?_⟩
  rcases List.mem_singleton.1 hx with rfl
  rw [pur_vptr]
  intro x hx
  rcases List.mem_singleton.1 hx with rfl
  exact hv
theorem pf30_ok (c : Cf) (q : List Un) (d : Int) (hq : q.length ≤ 1000000) (h : qok c q = true) : PF Try.prog 30 [.agg c.cells, .view (unRows q), .int .i64 d] (fun r => r = .tuple [.int .i64 (lastP d q), .int .i64 (if lastP d q = 0 then 6 else 0)]) := by
  have e1 : (if qok c q = true then (0 : Int) else 8) = 0 := if_pos h
  refine pf_of_wd0 Try.func30 (c := _) rfl rfl (Nat.le_of_ble_eq_true rfl) (args_cli c q d) ?_
  rw [show Try.f30.ntmps = 27 from rfl]
  have tE := And.intro (@upd_upd AV) <| And.intro (@upd_upd (Option Blk)) <| And.intro Cf.cells.eq_1 <| And.intro e1 <| And.intro ty3 <| And.intro ty5 <| And.intro ty23 <| And.intro ty25 <| And.intro ty56 <| And.intro ty58 <| Try.results30; repeat' first | ((with_reducible first | apply w_seq | apply w_region | apply wl_nil | apply wr_nil | apply wr_nilA | apply wr_nilE | apply go_normal | apply go_ret | apply go_exit | apply blk_normal | apply blk_ret | apply blk_here | apply w_block | apply w_skip | apply w_exit | apply w_label)) | ((with_reducible first | apply wz (tok Try.prog) | apply wr_z (tok Try.prog)); exact zZ; decide) | ((with_reducible first | apply w_alloc (tok Try.prog)); exact zT; decide) | ((with_reducible first | apply wcall' | apply wr_call); exact zV; exact zVs; exact zAs; (focus (with_unfolding_all first | exact pf33 c q (by omega) | exact pf64 q)); decide) | ((with_reducible first | apply w_iff'); exact zV; exact zU) | fail
  all_goals try clear tE
  refine w_cutS [(5, .vptr [.int .i64 d]), (6, .ptr 0 0), (7, .ptr 1 0), (18, .func (.func 94) [] [.vptr [.view (unRows q)]])] [some (.cells [.int .i64 0] 3), some (.cells [.int .i64 0] 25)] [] ?_ ?_
  · (have tu0 : Pur _ := bkfn_pur q; have tE := And.intro (@upd_upd AV) <| @upd_upd (Option Blk); exact kcanS [0, 1])
  simp only [St.ofS, List.length_cons, List.length_nil]
  refine w_rangeL (hs := [some (.cells [.int .i64 0] 3), some (.cells [.int .i64 0] 25)]) (g := 94) (first := []) (cap := [.vptr [.view (unRows q)]]) (R := fun r H n => r = .ret (.tuple []) ∧ ∃ lb : LoopB, (lb.state = .ready ∧ lb.pending = none ∧ lastP d q = 0 ∧ H = HQ 0 0 lb) ∨ (lb.state = .done ∧ lb.pending = some .ret ∧ lastP d q ≠ 0 ∧ H = HQ (lastP d q) 0 lb)) rfl ⟨_, Try.func94, rfl, rfl⟩ ?_ ?_
  · intro lb hlb
    have hst : lb.state = .ready := by rw [hlb]
    have hpe : lb.pending = none := by rw [hlb]
    have hH3 : hl ([some (.cells [.int .i64 0] 3), some (.cells [.int .i64 0] 25)] ++ [some .deferred, some (.loop lb)]) = HQ 0 0 lb := by
      funext i
      match i with
      | 0 | 1 | 2 | 3 => rfl
      | i + 4 => rfl
    rw [hH3]
    refine (ac94 q hq 3 4 _ (fun kk H n => 4 ≤ n ∧ H = HQ 0 0 lb ∧ ∀ (j : Nat) (v : Un), q[j]? = some v → kk ≤ j → v.p ≠ d) (fun i H n => H = HQ (lastP d q) 0 (lb.st .done (some .ret)) ∧ lastP d q = i + 1) ?_ ⟨Nat.le_refl _, rfl, ?_⟩).mono ?_
    · rintro i u H n hu ⟨hn, rfl, hno⟩
      have e0 : ((0 : Nat) == n) = false := by rw [beq_eq_false_iff_ne]; omega
      have e1 : ((1 : Nat) == n) = false := by rw [beq_eq_false_iff_ne]; omega
      have e2 : ((3 : Nat) == n) = false := by rw [beq_eq_false_iff_ne]; omega
      have f2 : (n == (3 : Nat)) = false := by rw [beq_eq_false_iff_ne]; omega
      have hil : i < q.length := by
        rcases Nat.lt_or_ge i q.length with h | h
        · exact h
        · rw [List.getElem?_eq_none h] at hu; cases hu
      have hw : IntKind.i64.wrap ((i : Int) + 1) = ((i + 1 : Nat) : Int) := by rw [wrap64 (by omega) (by omega)]; rfl
      refine yc_of_w (lb := lb) rfl hst (by rw [hlb]; rfl) (by rw [hlb]; intro t ht; have ht : t ∈ [19, 20] := ht; simp only [List.mem_cons, List.not_mem_nil, or_false] at ht; rcases ht with rfl | rfl; exact (show 19 < 27 by decide); exact (show 20 < 27 by decide)) ?_
      subst hlb
      show W _ _ _ _ _ _ ⟨upd (upd (sp _) 19 (.int .i64 i)) 20 (.agg u.cells), HQ 0 0 _, n, []⟩
      simp only [Un.cells]
      clear hst hpe
      have tE := And.intro (@upd_upd AV) <| And.intro (@upd_upd (Option Blk)) <| And.intro ty3 <| And.intro ty4 <| And.intro ty25 <| And.intro ty58 <| And.intro ty55 <| And.intro HQ.eq_1 <| And.intro noHeap.eq_1 <| And.intro e0 <| And.intro e1 <| e2; repeat' first | ((with_reducible first | apply w_seq | apply w_region | apply wl_nil | apply wr_nil | apply wr_nilA | apply wr_nilE | apply go_normal | apply go_ret | apply go_exit | apply blk_normal | apply blk_ret | apply blk_here | apply w_block | apply w_skip | apply w_exit | apply w_label)) | ((with_reducible first | apply wz (tok Try.prog) | apply wr_z (tok Try.prog)); exact zZ; decide) | ((with_reducible first | apply w_alloc (tok Try.prog)); exact zT; decide) | ((with_reducible first | apply w_store (tok Try.prog)); exact zV; exact zV; exact zS) | fail
      all_goals try clear tE
      refine ⟨rfl, rfl, by simp only [upd_b, e2, cond_false, Nat.reduceBEq, cond_true, beq_self_eq_true], ?_⟩
      have hlast : u.p = d → lastP d q = i + 1 := fun hp => lastP_at d q i u hu hp (fun j v hv hij => hno j v hv hij)
      refine w_postg ?_
      by_cases hup : u.p = d
      · have g1 : (u.p == d) = true := by simp [hup]
        have g2 : (u.p = d) = True := eq_true hup
        have tE := And.intro (@upd_upd AV) <| And.intro (@upd_upd (Option Blk)) <| And.intro ty3 <| And.intro ty4 <| And.intro ty25 <| And.intro ty58 <| And.intro ty55 <| And.intro noHeap.eq_1 <| And.intro e0 <| And.intro e1 <| And.intro e2 <| And.intro f2 <| And.intro hw <| And.intro g1 <| g2; repeat' first | ((with_reducible first | apply w_seq | apply w_region | apply wl_nil | apply wr_nil | apply wr_nilA | apply wr_nilE | apply go_normal | apply go_ret | apply go_exit | apply blk_normal | apply blk_ret | apply blk_here | apply w_block | apply w_skip | apply w_exit | apply w_label)) | ((with_reducible first | apply wz (tok Try.prog) | apply wr_z (tok Try.prog)); exact zZ; decide) | ((with_reducible first | apply w_store (tok Try.prog)); exact zV; exact zV; exact zS) | ((with_reducible first | apply w_ift'); exact zV; exact zU) | fail
        all_goals try clear tE
        refine w_ret ?_
        refine ⟨fun _ h => (nomatch h), _, gM (g_kill n), rfl, ?_, .inr ⟨rfl, ?_, ?_⟩⟩
        · simp only [upd_b, e2, f2, cond_false, Nat.reduceBEq, cond_true, beq_self_eq_true, show ((1 : Nat) == 3) = false from rfl, show ((0 : Nat) == 3) = false from rfl, show ((3 : Nat) == 1) = false from rfl, show ((3 : Nat) == 0) = false from rfl]
        · rw [hlast hup]; exact heap_q1 hn _ _ _ _ _ _ _ _ _
        · exact hlast hup
      · have g1 : (u.p == d) = false := by simp [hup]
        have g2 : (u.p = d) = False := eq_false hup
        have tE := And.intro (@upd_upd AV) <| And.intro (@upd_upd (Option Blk)) <| And.intro ty3 <| And.intro ty4 <| And.intro ty25 <| And.intro ty58 <| And.intro ty55 <| And.intro noHeap.eq_1 <| And.intro e0 <| And.intro e1 <| And.intro e2 <| And.intro f2 <| And.intro hw <| And.intro g1 <| g2; repeat' first | ((with_reducible first | apply w_seq | apply w_region | apply wl_nil | apply wr_nil | apply wr_nilA | apply wr_nilE | apply go_normal | apply go_ret | apply go_exit | apply blk_normal | apply blk_ret | apply blk_here | apply w_block | apply w_skip | apply w_exit | apply w_label)) | ((with_reducible first | apply wz (tok Try.prog) | apply wr_z (tok Try.prog)); exact zZ; decide) | ((with_reducible first | apply w_iff'); exact zV; exact zU) | fail
        all_goals try clear tE
        refine ⟨fun _ h => (nomatch h), _, gM (g_kill n), rfl, ?_, .inl ⟨rfl, by show 4 ≤ n + 1; omega, ?_, ?_⟩⟩
        · simp only [upd_b, e2, f2, cond_false, Nat.reduceBEq, cond_true, beq_self_eq_true]
        · exact heap_q0 hn _ _ _ _ _ _ _
        · intro j v hv hj
          rcases Nat.lt_or_ge i j with hij | hij
          · exact hno j v hv hij
          · obtain rfl : i = j := by omega
            rw [hu] at hv; cases hv; exact hup
    · intro j v hv hj
      rw [List.getElem?_eq_none hj] at hv; cases hv
    · rintro r H n ⟨rfl, ⟨_, rfl, hno⟩ | ⟨i, rfl, hl⟩⟩
      · exact ⟨rfl, lb, .inl ⟨hst, hpe, lastP_none d q (fun j v hv => hno j v hv (Nat.zero_le _)), rfl⟩⟩
      · exact ⟨rfl, lb.st .done (some .ret), .inr ⟨rfl, rfl, by omega, rfl⟩⟩
  · rintro r H n ⟨rfl, lb, ⟨hst, hpe, hz, rfl⟩ | ⟨hst, hpe, hz, rfl⟩⟩
    · refine ⟨_, lb, rfl, rfl, by rw [hst]; decide, ?_⟩
      rw [hpe]
      simp only [List.length_cons, List.length_nil, Nat.zero_add, Nat.reduceAdd]
      have tE := And.intro (@upd_upd AV) <| And.intro (@upd_upd (Option Blk)) <| And.intro ty3 <| And.intro ty4 <| And.intro ty25 <| And.intro HQ.eq_1 <| noHeap.eq_1; repeat' first | ((with_reducible first | apply w_seq | apply w_region | apply wl_nil | apply wr_nil | apply wr_nilA | apply wr_nilE | apply go_normal | apply go_ret | apply go_exit | apply blk_normal | apply blk_ret | apply blk_here | apply w_block | apply w_skip | apply w_exit | apply w_label)) | ((with_reducible first | apply w_store (tok Try.prog)); exact zV; exact zV; exact zS) | fail
      all_goals try clear tE
      refine w_ret (doneD_ret (xs := [.int .i64 0, .int .i64 6]) (tok Try.prog) Try.results30 ⟨by simp only [sp_cons, sp_nil, upd_b, Nat.reduceBEq, cond_true, cond_false, args0_zero, args0_succ, args0_nil], trivial⟩ ?_ (by simp only [pur_bool, pur_int, pur_str, pur_empty, pur_nilptr, pur_nilFunc, pur_nilIface, pur_any, pur_agg, pur_tuple, pur_vptr, pur_view, pur_iface, pur_func, tup, List.mem_cons, forall_eq_or_imp, List.not_mem_nil, false_implies, implies_true, and_self, forall_const, forall_eq]) ?_)
      · simp only [resA, resOne, killAll, pv, pvx, pvIndexAddr, pvIndex, pvOwn, evp, List.replicate_succ, List.replicate_zero, List.flatten_cons, List.flatten_nil, List.append_nil, List.cons_append, List.nil_append, buildA, placesA, fillA, wr, known, cellsA, List.set_cons_zero, List.set_cons_succ, and_self, Nat.reduceSub, List.length_set, and_true, List.all_cons, List.all_nil, scalA, Bool.and_true, Bool.and_self, evo, evs, cval, Option.bind_some, Option.map_some, binv, intop, pvPick, pvUn, pvConv, pvExtract, fieldOf, pvField, pvFieldAddr, pvLoad, pvNil, loadA, partA, isAggD, pvIface, isIface, pvLen, lenA, pvCall, noYieldB, List.drop_succ_cons, List.drop_zero, List.take_succ_cons, List.take_zero, List.getElem?_cons_succ, List.getElem?_cons_zero, List.getElem?_toArray, List.length_cons, List.length_nil, Bool.false_eq_true, Nat.reduceAdd, Nat.reduceLeDiff, Nat.zero_add, Nat.reduceEqDiff, Nat.one_ne_zero, Int.reduceEq, Int.reduceLT, Int.reduceLE, Int.reduceToNat, Nat.reduceMul, Nat.reduceLT, hl_zero, hl_succ, hl_nil, sp_cons, sp_nil, upd_b, Nat.reduceBEq, cond_true, cond_false, args0_zero, args0_succ, args0_nil, ↓reduceIte, ty3, ty25]
      · simp [tup, hz]
    · refine ⟨_, lb, rfl, rfl, by rw [hst]; decide, ?_⟩
      rw [hpe]
      simp only [List.length_cons, List.length_nil, Nat.zero_add, Nat.reduceAdd]
      refine w_ret ?_
      show DonePD Try.prog Try.f30 _ .ret _
      refine doneD_ret (xs := [.int .i64 (lastP d q), .int .i64 0]) (tok Try.prog) Try.results30 ⟨by simp only [HQ.eq_1, sp_cons, sp_nil, upd_b, Nat.reduceBEq, cond_true, cond_false, args0_zero, args0_succ, args0_nil], trivial⟩ ?_ (by simp only [pur_bool, pur_int, pur_str, pur_empty, pur_nilptr, pur_nilFunc, pur_nilIface, pur_any, pur_agg, pur_tuple, pur_vptr, pur_view, pur_iface, pur_func, tup, List.mem_cons, forall_eq_or_imp, List.not_mem_nil, false_implies, implies_true, and_self, forall_const, forall_eq]) ?_
      · simp only [HQ.eq_1, resA, resOne, killAll, pv, pvx, pvIndexAddr, pvIndex, pvOwn, evp, List.replicate_succ, List.replicate_zero, List.flatten_cons, List.flatten_nil, List.append_nil, List.cons_append, List.nil_append, buildA, placesA, fillA, wr, known, cellsA, List.set_cons_zero, List.set_cons_succ, and_self, Nat.reduceSub, List.length_set, and_true, List.all_cons, List.all_nil, scalA, Bool.and_true, Bool.and_self, evo, evs, cval, Option.bind_some, Option.map_some, binv, intop, pvPick, pvUn, pvConv, pvExtract, fieldOf, pvField, pvFieldAddr, pvLoad, pvNil, loadA, partA, isAggD, pvIface, isIface, pvLen, lenA, pvCall, noYieldB, List.drop_succ_cons, List.drop_zero, List.take_succ_cons, List.take_zero, List.getElem?_cons_succ, List.getElem?_cons_zero, List.getElem?_toArray, List.length_cons, List.length_nil, Bool.false_eq_true, Nat.reduceAdd, Nat.reduceLeDiff, Nat.zero_add, Nat.reduceEqDiff, Nat.one_ne_zero, Int.reduceEq, Int.reduceLT, Int.reduceLE, Int.reduceToNat, Nat.reduceMul, Nat.reduceLT, hl_zero, hl_succ, hl_nil, sp_cons, sp_nil, upd_b, Nat.reduceBEq, cond_true, cond_false, args0_zero, args0_succ, args0_nil, ↓reduceIte, ty3, ty25]
      · simp [tup, hz]
theorem pf30 (c : Cf) (q : List Un) (d : Int) (hq : q.length ≤ 1000000) : PF Try.prog 30 [.agg c.cells, .view (unRows q), .int .i64 d] (fun r => r = .tuple [.int .i64 (ahI c q d), .int .i64 (ahE c q d)]) := by
  cases h : qok c q with
  | false => simpa [ahI, ahE, h] using pf30_bad c q d hq h
  | true => simpa [ahI, ahE, h] using pf30_ok c q d hq h
end Go.Proofs.Ytclldbeefbbdlaa
open Go Go.Lg
set_option linter.unusedSimpArgs false
set_option linter.unusedVariables false
set_option maxHeartbeats 4000000
set_option maxRecDepth 20000
namespace Go.Proofs.Ytclldbeefbbdlaa
def two : Cf := ⟨4, 1, 2, 1, 2, 1, 1, 2, 4⟩
def fet (p : Int) : Un := ⟨1, p, 0, []⟩
theorem pf28 : PF Try.prog 28 [] (fun r => r = .agg [.int .i64 4, .int .i64 1, .int .i64 2, .int .i64 1, .int .i64 2, .int .i64 1, .int .i64 1, .int .i64 2, .int .i64 4]) := by
  refine pf_of_w0 Try.func28 (c := _) rfl rfl (Nat.le_of_ble_eq_true rfl) (fun x hx => by cases hx) ?_
  rw [show Try.f28.ntmps = 2 from rfl]
  have tE := And.intro (@upd_upd AV) <| And.intro (@upd_upd (Option Blk)) <| And.intro Cf.cells.eq_1 <| And.intro ty3 <| And.intro ty23 <| Try.results28; repeat' first | ((with_reducible first | apply w_seq | apply w_region | apply wl_nil | apply wr_nil | apply wr_nilA | apply wr_nilE | apply go_normal | apply go_ret | apply go_exit | apply blk_normal | apply blk_ret | apply blk_here | apply w_block | apply w_skip | apply w_exit | apply w_label)) | ((with_reducible first | apply wz (tok Try.prog) | apply wr_z (tok Try.prog)); exact zZ; decide) | ((with_reducible first | apply w_alloc (tok Try.prog)); exact zT; decide) | ((with_reducible first | apply w_store (tok Try.prog)); exact zV; exact zV; exact zS) | ((with_reducible apply w_ret); (repeat (with_reducible first | apply go_ret | apply blk_ret)); (with_reducible apply done_ret (tok Try.prog)); exact zT; exact zD; exact zX) | fail
  all_goals try clear tE
  rfl
theorem pf31 (p : Int) : PF Try.prog 31 [.int .i64 p] (fun r => r = .agg [.int .u8 1, .int .i64 p, .int .i64 0, .view []]) := by
  refine PF.weak (x := .agg [.int .u8 1, .int .i64 p, .int .i64 0, .empty]) ?_ (.agg (.cons (.refl _) (.cons (.refl _) (.cons (.refl _) (.cons .empty .nil))))) (.agg (un_pur (fet p)))
  refine pf_of_w0 Try.func31 (c := _) rfl rfl (Nat.le_of_ble_eq_true rfl) (fun x hx => by rcases List.mem_singleton.1 hx with rfl; exact .int _ _) ?_
  rw [show Try.f31.ntmps = 5 from rfl]
  have tE := And.intro (@upd_upd AV) <| And.intro (@upd_upd (Option Blk)) <| And.intro Cf.cells.eq_1 <| And.intro ty3 <| And.intro ty5 <| And.intro ty56 <| And.intro ty58 <| Try.results31; repeat' first | ((with_reducible first | apply w_seq | apply w_region | apply wl_nil | apply wr_nil | apply wr_nilA | apply wr_nilE | apply go_normal | apply go_ret | apply go_exit | apply blk_normal | apply blk_ret | apply blk_here | apply w_block | apply w_skip | apply w_exit | apply w_label)) | ((with_reducible first | apply wz (tok Try.prog) | apply wr_z (tok Try.prog)); exact zZ; decide) | ((with_reducible first | apply w_alloc (tok Try.prog)); exact zT; decide) | ((with_reducible first | apply w_store (tok Try.prog)); exact zV; exact zV; exact zS) | ((with_reducible apply w_ret); (repeat (with_reducible first | apply go_ret | apply blk_ret)); (with_reducible apply done_ret (tok Try.prog)); exact zT; exact zD; exact zX) | fail
  all_goals try clear tE
  rfl
theorem fet_d (l : List Int) : ∀ u, u ∈ l.map fet → u.d.length ≤ 1000000 := fun u hu => by
  obtain ⟨v, _, rfl⟩ := List.mem_map.1 hu
  exact Nat.zero_le _
theorem pf29_fet (c : Cf) (q m : List Int) (hq : q.length ≤ 1000) (hm : m.length ≤ 1000) : PF Try.prog 29 [.agg c.cells, .view (unRows (q.map fet)), .view (unRows (m.map fet))] (fun r => r = .tuple [.view (unRows (putU c (q.map fet) (m.map fet))), .int .i64 (putE c (q.map fet) (m.map fet))]) :=
  pf29 c _ _ (by rw [List.length_map]; exact hq) (by rw [List.length_map]; exact hm) (fet_d q) (fet_d m)
theorem pf32 : PF Try.prog 32 [] (fun r => r = .bool true) := by
  have p1 : PF Try.prog 29 [.agg [.int .i64 4, .int .i64 1, .int .i64 2, .int .i64 1, .int .i64 2, .int .i64 1, .int .i64 1, .int .i64 2, .int .i64 4], .empty, .view [[.int .u8 1, .int .i64 1, .int .i64 0, .view []], [.int .u8 1, .int .i64 2, .int .i64 0, .view []]]] (fun r => r = .tuple [.view [[.int .u8 1, .int .i64 1, .int .i64 0, .view []], [.int .u8 1, .int .i64 2, .int .i64 0, .view []]], .int .i64 0]) :=
    ((pf29_fet two [] [1, 2] (by decide) (by decide)).args (.cons (.refl _) (.cons .empty (.cons (.refl _) .nil)))).mono fun r h => h.trans (by with_unfolding_all rfl)
  have p2 : PF Try.prog 27 [.agg [.int .i64 4, .int .i64 1, .int .i64 2, .int .i64 1, .int .i64 2, .int .i64 1, .int .i64 1, .int .i64 2, .int .i64 4], .view [[.int .u8 1, .int .i64 1, .int .i64 0, .view []], [.int .u8 1, .int .i64 2, .int .i64 0, .view []]]] (fun r => r = .tuple [.view [[.int .u8 1, .int .i64 2, .int .i64 0, .view []]], .agg [.int .u8 1, .int .i64 1, .int .i64 0, .view []], .int .i64 0]) :=
    (pf27 two ([1, 2].map fet) (by decide) (fet_d _)).mono fun r h => h.trans (by with_unfolding_all rfl)
  have p3 : PF Try.prog 30 [.agg [.int .i64 4, .int .i64 1, .int .i64 2, .int .i64 1, .int .i64 2, .int .i64 1, .int .i64 1, .int .i64 2, .int .i64 4], .view [[.int .u8 1, .int .i64 1, .int .i64 0, .view []], [.int .u8 1, .int .i64 2, .int .i64 0, .view []]], .int .i64 2] (fun r => r = .tuple [.int .i64 2, .int .i64 0]) :=
    (pf30 two ([1, 2].map fet) 2 (by decide)).mono fun r h => h.trans (by with_unfolding_all rfl)
  have p4 : PF Try.prog 29 [.agg [.int .i64 4, .int .i64 1, .int .i64 2, .int .i64 1, .int .i64 2, .int .i64 1, .int .i64 1, .int .i64 2, .int .i64 4], .view [[.int .u8 1, .int .i64 1, .int .i64 0, .view []], [.int .u8 1, .int .i64 2, .int .i64 0, .view []]], .view [[.int .u8 1, .int .i64 3, .int .i64 0, .view []]]] (fun r => r = .tuple [.view [], .int .i64 230]) :=
    (pf29_fet two [1, 2] [3] (by decide) (by decide)).mono fun r h => h.trans (by with_unfolding_all rfl)
  have p5 : PF Try.prog 29 [.agg [.int .i64 4, .int .i64 1, .int .i64 2, .int .i64 1, .int .i64 2, .int .i64 1, .int .i64 1, .int .i64 2, .int .i64 4], .view [[.int .u8 1, .int .i64 2, .int .i64 0, .view []]], .view [[.int .u8 1, .int .i64 3, .int .i64 0, .view []], [.int .u8 1, .int .i64 3, .int .i64 0, .view []]]] (fun r => r = .tuple [.view [], .int .i64 230]) :=
    (pf29_fet two [2] [3, 3] (by decide) (by decide)).mono fun r h => h.trans (by with_unfolding_all rfl)
  refine pf_of_w0 Try.func32 (c := _) rfl rfl (Nat.le_of_ble_eq_true rfl) (fun x hx => by cases hx) ?_
  rw [show Try.f32.ntmps = 87 from rfl]
  have tE := And.intro (@upd_upd AV) <| And.intro (@upd_upd (Option Blk)) <| And.intro Cf.cells.eq_1 <| And.intro ty3 <| And.intro ty5 <| And.intro ty25 <| And.intro ty55 <| And.intro ty56 <| And.intro ty58 <| Try.results32; repeat' first | ((with_reducible first | apply w_seq | apply w_region | apply wl_nil | apply wr_nil | apply wr_nilA | apply wr_nilE | apply go_normal | apply go_ret | apply go_exit | apply blk_normal | apply blk_ret | apply blk_here | apply w_block | apply w_skip | apply w_exit | apply w_label)) | ((with_reducible first | apply wz (tok Try.prog) | apply wr_z (tok Try.prog)); exact zZ; decide) | ((with_reducible first | apply wzg (tok Try.prog) | apply wr_zg (tok Try.prog)); exact zU; exact zL; exact zU; exact zZ; decide) | ((with_reducible first | apply w_alloc (tok Try.prog)); exact zT; decide) | ((with_reducible first | apply w_store (tok Try.prog)); exact zV; exact zV; exact zS) | ((with_reducible first | apply wcall' | apply wr_call); exact zV; exact zVs; exact zAs; (focus (with_unfolding_all first | exact pf28 | exact pf31 1 | exact pf31 2 | exact pf31 3 | exact p1 | exact p2 | exact p3 | exact p4 | exact p5)); decide) | ((with_reducible first | apply wp | apply wr_p); (focus (first | ((with_reducible first | apply pure_bs1 (tok Try.prog)); exact zT; exact zU; exact zT; exact zP; exact zR; exact zC; decide; decide; exact zU; exact zU))); decide) | ((with_reducible apply w_ret); (repeat (with_reducible first | apply go_ret | apply blk_ret)); (with_reducible apply done_ret (tok Try.prog)); exact zT; exact zD; exact zX) | fail
  all_goals try clear tE
  rfl
end Go.Proofs.Ytclldbeefbbdlaa
open Go Go.Lg
set_option linter.unusedSimpArgs false
set_option linter.unusedVariables false
set_option maxHeartbeats 4000000
set_option maxRecDepth 20000
namespace Go.Proofs.Ytclldbeefbbdlaa
theorem subs_get : ∀ {xs ys : List AV}, Subs xs ys → xs.length = ys.length ∧ ∀ (i : Nat) y, ys[i]? = some y → ∃ x, xs[i]? = some x ∧ Sub x y
  | _, _, .nil => ⟨rfl, by simp⟩
  | _, _, .cons h hs => by
    obtain ⟨h1, h2⟩ := subs_get hs
    refine ⟨by simp [h1], fun i y hy => ?_⟩
    cases i with
    | zero => simp at hy; subst hy; exact ⟨_, rfl, h⟩
    | succ i => simp at hy ⊢; exact h2 i y hy
theorem sub_view1 {r s : List AV} (h : Subs r s) : Sub (.view [r]) (.view [s]) := fun K v hv => by
  obtain ⟨h1, h2⟩ := subs_get h
  cases hv with
  | @view _ a c esz f hc hl ha hv =>
    have hl' : r.length = esz := hl r (by simp)
    refine VR.view (rows := [s]) f hc (esz := esz) (fun x hx => by rcases List.mem_singleton.1 hx with rfl; omega) ha (fun i j x y hx hy => ?_)
    cases i with
    | zero =>
      obtain rfl : s = x := by simpa using hx
      obtain ⟨z, hz, hs⟩ := h2 j y hy
      exact hs K _ (hv 0 j r z rfl hz)
    | succ i => simp at hx
theorem un_sub (k p f : Int) : Subs [.int .u8 k, .int .i64 p, .int .i64 f, .empty] (Un.cells ⟨k, p, f, []⟩) := .cons (.refl _) (.cons (.refl _) (.cons (.refl _) (.cons .empty .nil)))
theorem pf8 : PF Try.prog 8 [] (fun r => r = .bool true) := by
  have p1 : PF Try.prog 27 [.agg [.int .i64 4, .int .i64 1, .int .i64 2, .int .i64 1, .int .i64 2, .int .i64 1, .int .i64 1, .int .i64 2, .int .i64 4], .empty] (fun r => r = .tuple [.view [], .agg [.int .u8 0, .int .i64 0, .int .i64 0, .view []], .int .i64 6]) :=
    ((pf27 two [] (by decide) (fun x hx => by cases hx)).args (.cons (.refl _) (.cons .empty .nil))).mono fun r h => h.trans (by with_unfolding_all rfl)
  have p2 : PF Try.prog 29 [.agg [.int .i64 4, .int .i64 1, .int .i64 2, .int .i64 1, .int .i64 2, .int .i64 1, .int .i64 1, .int .i64 2, .int .i64 4], .empty, .view [[.int .u8 0, .int .i64 0, .int .i64 0, .empty]]] (fun r => r = .tuple [.view [], .int .i64 8]) :=
    ((pf29 two [] [⟨0, 0, 0, []⟩] (by decide) (by decide) (by decide) (by decide)).args (.cons (.refl _) (.cons .empty (.cons (sub_view1 (un_sub 0 0 0)) .nil)))).mono fun r h => h.trans (by with_unfolding_all rfl)
  have p3 : PF Try.prog 29 [.agg [.int .i64 4, .int .i64 1, .int .i64 2, .int .i64 1, .int .i64 2, .int .i64 1, .int .i64 1, .int .i64 2, .int .i64 4], .empty, .view [[.int .u8 2, .int .i64 0, .int .i64 0, .empty]]] (fun r => r = .tuple [.view [], .int .i64 8]) :=
    ((pf29 two [] [⟨2, 0, 0, []⟩] (by decide) (by decide) (by decide) (by decide)).args (.cons (.refl _) (.cons .empty (.cons (sub_view1 (un_sub 2 0 0)) .nil)))).mono fun r h => h.trans (by with_unfolding_all rfl)
  have p4 : PF Try.prog 29 [.agg [.int .i64 4, .int .i64 1, .int .i64 2, .int .i64 1, .int .i64 2, .int .i64 1, .int .i64 1, .int .i64 2, .int .i64 4], .empty, .view [[.int .u8 1, .int .i64 0, .int .i64 1, .empty]]] (fun r => r = .tuple [.view [], .int .i64 8]) :=
    ((pf29 two [] [⟨1, 0, 1, []⟩] (by decide) (by decide) (by decide) (by decide)).args (.cons (.refl _) (.cons .empty (.cons (sub_view1 (un_sub 1 0 1)) .nil)))).mono fun r h => h.trans (by with_unfolding_all rfl)
  have p5 : PF Try.prog 30 [.agg [.int .i64 4, .int .i64 1, .int .i64 2, .int .i64 1, .int .i64 2, .int .i64 1, .int .i64 1, .int .i64 2, .int .i64 4], .view [[.int .u8 1, .int .i64 1, .int .i64 0, .view []]], .int .i64 0] (fun r => r = .tuple [.int .i64 0, .int .i64 6]) :=
    (pf30 two ([1].map fet) 0 (by decide)).mono fun r h => h.trans (by with_unfolding_all rfl)
  have p6 : PF Try.prog 33 [.agg [.int .i64 4, .int .i64 1, .int .i64 2, .int .i64 1, .int .i64 2, .int .i64 1, .int .i64 1, .int .i64 2, .int .i64 4], .view [[.int .u8 1, .int .i64 1, .int .i64 0, .view []], [.int .u8 1, .int .i64 1, .int .i64 0, .view []], [.int .u8 1, .int .i64 1, .int .i64 0, .view []]]] (fun r => r = .int .i64 8) :=
    (pf33 two ([1, 1, 1].map fet) (by decide)).mono fun r h => h.trans (by with_unfolding_all rfl)
  refine pf_of_w0 Try.func8 (c := _) rfl rfl (Nat.le_of_ble_eq_true rfl) (fun x hx => by cases hx) ?_
  rw [show Try.f8.ntmps = 78 from rfl]
  have tE := And.intro (@upd_upd AV) <| And.intro (@upd_upd (Option Blk)) <| And.intro Cf.cells.eq_1 <| And.intro ty3 <| And.intro ty5 <| And.intro ty25 <| And.intro ty55 <| And.intro ty56 <| And.intro ty58 <| Try.results8; repeat' first | ((with_reducible first | apply w_seq | apply w_region | apply wl_nil | apply wr_nil | apply wr_nilA | apply wr_nilE | apply go_normal | apply go_ret | apply go_exit | apply blk_normal | apply blk_ret | apply blk_here | apply w_block | apply w_skip | apply w_exit | apply w_label)) | ((with_reducible first | apply wz (tok Try.prog) | apply wr_z (tok Try.prog)); exact zZ; decide) | ((with_reducible first | apply wzg (tok Try.prog) | apply wr_zg (tok Try.prog)); exact zU; exact zL; exact zU; exact zZ; decide) | ((with_reducible first | apply w_alloc (tok Try.prog)); exact zT; decide) | ((with_reducible first | apply w_store (tok Try.prog)); exact zV; exact zV; exact zS) | ((with_reducible first | apply wcall' | apply wr_call); exact zV; exact zVs; exact zAs; (focus (with_unfolding_all first | exact pf28 | exact pf31 1 | exact pf32 | exact p1 | exact p2 | exact p3 | exact p4 | exact p5 | exact p6)); decide) | ((with_reducible first | apply wcallg' | apply wr_callg); exact zU; exact zL; exact zU; exact zV; exact zVs; exact zAs; (focus (with_unfolding_all first | exact pf28 | exact pf31 1 | exact pf32 | exact p1 | exact p2 | exact p3 | exact p4 | exact p5 | exact p6)); decide) | ((with_reducible first | apply wp | apply wr_p); (focus (first | ((with_reducible first | apply pure_bs1 (tok Try.prog)); exact zT; exact zU; exact zT; exact zP; exact zR; exact zC; decide; decide; exact zU; exact zU))); decide) | ((with_reducible first | apply wpg | apply wr_pg); exact zU; exact zL; exact zU; (focus (first | ((with_reducible first | apply pure_bs1 (tok Try.prog)); exact zT; exact zU; exact zT; exact zP; exact zR; exact zC; decide; decide; exact zU; exact zU))); decide) | ((with_reducible apply w_ret); (repeat (with_reducible first | apply go_ret | apply blk_ret)); (with_reducible apply done_ret (tok Try.prog)); exact zT; exact zD; exact zX) | fail
  all_goals try clear tE
  rfl
end Go.Proofs.Ytclldbeefbbdlaa
