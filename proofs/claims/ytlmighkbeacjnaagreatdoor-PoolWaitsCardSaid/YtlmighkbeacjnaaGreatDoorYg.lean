/- queue.Put. slices.Backward over units; the place of the last unit of a page. queue.Ahead. -/
import Derived.Test.YtlmighkbeacjnaaGreatDoorLm5
import Derived.Test.YtlmighkbeacjnaaGreatDoorT1
import Derived.Test.YtlmighkbeacjnaaGreatDoorYb

open Go Go.Lg
set_option linter.unusedSimpArgs false
set_option linter.unusedVariables false
set_option maxHeartbeats 4000000
set_option maxRecDepth 20000
namespace Go.Proofs.YtlmighkbeacjnaaGreatDoor
theorem tkQ1 : TOK Tryz.prog (tyOf Tryz.prog) := tok Tryz.prog
def tfQ10 := PLift.up (aI ty3 <| aI ty5 <| aI ty27 <| aI ty28 <| aI ty58 <| Tryz.results41)
def tfQ11 := PLift.up (aI ty3 <| aI ty5 <| aI ty27 <| aI ty28 <| aI ty58 <| aI ty98 <| Tryz.results152)
def tfQ12 := PLift.up (aI ty3 <| aI ty4 <| aI ty5 <| aI ty23 <| aI ty27 <| aI ty28 <| aI ty34 <| aI ty58 <| aI ty98 <| Tryz.results132)
theorem pf41 (l : List Un) (hl1 : l.length ≤ 1000000) (hd : ∀ u, u ∈ l → u.d.length ≤ 1000000) : PF Tryz.prog 41 [.view (unRows l)] (fun r => r = .view (unRows l)) := by
  have ha : ∀ x, x ∈ [AV.view (unRows l)] → Pur x := fun x hx => by rcases List.mem_singleton.1 hx with rfl; exact unRows_pur l
  cases l with
  | nil =>
    refine pf_of_w0 Tryz.func41 (c := _) rfl rfl (Nat.le_of_ble_eq_true rfl) ha ?_
    rw [show Tryz.f41.ntmps = 24 from rfl]
    have e0 : ((((unRows []).length : Nat) : Int)) = 0 := rfl
    have tE := aI uU <| aI e0 <| tfQ10.down; repeat' first | (refine Red.h ?_) | ((with_reducible first | apply wz tkQ1 | apply wr_z tkQ1); exact zZ; decide) | ((with_reducible first | apply wcall' | apply wr_call); exact zV; exact zVs; exact zAs; (focus (with_unfolding_all first | exact pf77_nil)); decide) | fail
    all_goals try clear tE
    refine w_once ?_
    have hpu := unRows_pur []
    have tE := aI uU <| aI e0 <| tfQ10.down; repeat' first | (refine Red.h ?_) | ((with_reducible first | apply wz tkQ1 | apply wr_z tkQ1); exact zZ; decide) | ((with_reducible first | apply w_iff'); exact zV; exact zU) | ((with_reducible apply w_ret); (repeat refine Red.h ?_); (with_reducible apply done_ret tkQ1); exact zT; exact zD; exact zX) | fail
    all_goals try clear tE
    rfl
  | cons u0 l0 =>
    refine pf_of_fz ⟨_, Tryz.func41, rfl, rfl⟩ ha ((ac41 (u0 :: l0) (by simp) hl1 hd).mono ?_)
    rintro r H n ⟨id, rfl, hH⟩
    have := fz_rows (cap := none) (unRows_row (u0 :: l0)) (unRows_pur _) hH
    rw [unRows_len] at this
    exact ⟨_, _, rfl, this, unRows_pur _, rfl⟩
theorem cf_q {c : Cf} (h : c.good = true) : 1 ≤ c.q ∧ c.q ≤ 16 := by
  have hok : c.ok = true := by simp [Cf.good] at h; exact h.1
  simp [Cf.ok, Cf.spans, inB] at hok; omega
theorem args_cll (c : Cf) (q m : List Un) : ∀ x, x ∈ [AV.agg c.cells, AV.view (unRows q), AV.view (unRows m)] → Pur x := by
  intro x hx
  simp only [List.mem_cons, List.not_mem_nil, or_false] at hx
  rcases hx with rfl | rfl | rfl
  · exact .agg (cells_pur c)
  · exact unRows_pur q
  · exact unRows_pur m
/-- The line's put, where there is room. -/
theorem ac152 (H : Heap) (n L id : Nat) (q m : List Un) (most : Int) (hL : H L = some (.cells [ownR id 4 (unRows q)] 98)) (hid : 0 < q.length → H id = some (.cells (unRows q).flatten 58)) (hne : 0 < q.length → L ≠ id) (hLn : L < n) (hq : q.length ≤ 1000) (hm0 : q.length = 0 → 0 < m.length) (hm : m.length ≤ 1000) (hmost : 0 ≤ most ∧ most ≤ 1000)
    (hroom : (q.length : Int) + m.length ≤ most) :
    AC Tryz.prog 152 [.ptr L 0, .int .i64 most, .view (unRows m)] H n (fun r h' n' => r = .ret (.bool true) ∧ h' = upd (upd (if 0 < q.length then upd H id none else H) n (some (.cells (unRows (q ++ m)).flatten 58))) L (some (.cells [.slice n 0 (q.length + m.length) none 4] 98)) ∧ n' = n + 1) := by
  refine ac_of_w Tryz.func152 (c := _) rfl (Nat.le_of_ble_eq_true rfl) ?_
  rw [show Tryz.f152.ntmps = 26 from rfl]
  have b1 : (L == n) = false := by rw [beq_eq_false_iff_ne]; omega
  have hrm := unRows_row m
  have hml := unRows_len m
  have hsc : (unRows m).flatten.all scalA = true := by
    rw [List.all_eq_true]
    intro x hx
    obtain ⟨r, h1, h2⟩ := List.mem_flatten.1 hx
    simp only [unRows, List.mem_map] at h1
    obtain ⟨u, _, rfl⟩ := h1
    simp only [Un.cells, List.mem_cons, List.not_mem_nil, or_false] at h2
    rcases h2 with rfl | rfl | rfl | rfl <;> rfl
  rcases Nat.eq_zero_or_pos q.length with hz | hz
  · have h0m : 0 < (unRows m).length := by rw [hml]; exact hm0 hz
    obtain rfl := List.eq_nil_of_length_eq_zero hz
    rw [show ownR id 4 (unRows []) = .empty from rfl] at hL
    have wr : IntKind.i64.wrap (most - ((0 : Nat) : Int)) = most := by rw [wrap64 (by omega) (by omega)]; omega
    have wr0 : IntKind.i64.wrap (most - 0) = most := by rw [wrap64 (by omega) (by omega)]; omega
    have hgt : ¬ ((m.length : Int) > most) := by simp at hroom; omega
    have tE := aI uU <| aI hL <| aI b1 <| aI hml <| aI wr <| aI wr0 <| aI hgt <| tfQ11.down; repeat' first | (refine Red.h ?_) | ((with_reducible first | apply wz tkQ1 | apply wr_z tkQ1); exact zZ; decide) | ((with_reducible first | apply w_store tkQ1); exact zV; exact zV; exact zS) | ((with_reducible first | apply w_ap | apply wr_ap); (focus (first | (intro _ ho _ hr _; (with_reducible apply ap_new tkQ1 ho (hr := hr)); exact zT; exact zU; exact zT; exact zT; exact zU; exact zA; exact zV; exact zK; exact zM; exact zK; exact zK; decide) | (intro _ ho _ hr _; (with_reducible apply ap_own tkQ1 ho (hr := hr)); exact zT; exact zU; exact zT; exact zT; exact zU; exact zV; exact zV; exact zH; exact zKo; exact zM; (focus (first | rfl | assumption)); exact zKo; exact zKo; decide))); decide) | ((with_reducible first | apply w_iff'); exact zV; exact zU) | ((with_reducible apply w_ret); (repeat refine Red.h ?_); (with_reducible first | apply donef_ret tkQ1 | apply doneA_ret tkQ1); exact zT; exact zD) | fail
    all_goals try clear tE
    refine ⟨rfl, ?_, rfl⟩
    simp
    rfl
  · rw [ownR_pos id 4 (show 0 < (unRows q).length by rw [unRows_len]; exact hz), unRows_len] at hL
    have hid := hid hz
    have b2 : (L == id) = false := by rw [beq_eq_false_iff_ne]; exact hne hz
    have wr : IntKind.i64.wrap (most - (q.length : Int)) = most - q.length := wrap64 (by omega) (by omega)
    have hgt : ¬ ((m.length : Int) > most - q.length) := by omega
    have hfl : (unRows q).flatten.length = q.length * 4 := unFlat_len q
    have tE := aI uU <| aI hL <| aI hid <| aI b1 <| aI b2 <| aI hml <| aI wr <| aI hgt <| aI hfl <| tfQ11.down; repeat' first | (refine Red.h ?_) | ((with_reducible first | apply wz tkQ1 | apply wr_z tkQ1); exact zZ; decide) | ((with_reducible first | apply w_store tkQ1); exact zV; exact zV; exact zS) | ((with_reducible first | apply w_ap | apply wr_ap); (focus (first | (intro _ ho _ hr _; (with_reducible apply ap_new tkQ1 ho (hr := hr)); exact zT; exact zU; exact zT; exact zT; exact zU; exact zA; exact zV; exact zK; exact zM; exact zK; exact zK; decide) | (intro _ ho _ hr _; (with_reducible apply ap_own tkQ1 ho (hr := hr)); exact zT; exact zU; exact zT; exact zT; exact zU; exact zV; exact zV; exact zH; exact zKo; exact zM; (focus (first | rfl | assumption)); exact zKo; exact zKo; decide))); decide) | ((with_reducible first | apply w_iff'); exact zV; exact zU) | ((with_reducible apply w_ret); (repeat refine Red.h ?_); (with_reducible first | apply donef_ret tkQ1 | apply doneA_ret tkQ1); exact zT; exact zD) | fail
    all_goals try clear tE
    refine ⟨rfl, ?_, rfl⟩
    rw [if_pos hz]
    simp [unRows]
    rfl
/-- The line's put, of nothing into nothing. -/
theorem ac152e (H : Heap) (n L : Nat) (most : Int) (hL : H L = some (.cells [.empty] 98)) (hLn : L < n) (hmost : 0 ≤ most ∧ most ≤ 1000) :
    AC Tryz.prog 152 [.ptr L 0, .int .i64 most, .empty] H n (fun r h' n' => r = .ret (.bool true) ∧ h' = upd H L (some (.cells [.empty] 98)) ∧ n' = n) := by
  refine ac_of_w Tryz.func152 (c := _) rfl (Nat.le_of_ble_eq_true rfl) ?_
  rw [show Tryz.f152.ntmps = 26 from rfl]
  have wr0 : IntKind.i64.wrap (most - 0) = most := by rw [wrap64 (by omega) (by omega)]; omega
  have hgt : ¬ ((0 : Int) > most) := by omega
  have tE := aI uU <| aI hL <| aI wr0 <| aI hgt <| tfQ11.down; repeat' first | (refine Red.h ?_) | ((with_reducible first | apply wz tkQ1 | apply wr_z tkQ1); exact zZ; decide) | ((with_reducible first | apply w_store tkQ1); exact zV; exact zV; exact zS) | ((with_reducible first | apply wp | apply wr_p); (focus (first | ((with_reducible first | apply p_slv tkQ1); exact zT; exact zU; exact zT; exact zV; exact zN; exact zN; (focus (first | exact zU | exact zB)); (focus (first | exact zU | exact zB)); (focus (first | exact zU | assumption))) | ((with_reducible first | apply p_slo tkQ1); exact zT; exact zU; exact zT; exact zV; exact zN; exact zN; (focus (first | exact zU | exact zB)); (focus (first | exact zU | exact zB)); (focus (first | exact zU | assumption))) | ((with_reducible first | apply p_nil tkQ1 | apply p_nnil tkQ1); exact zT; exact zV; exact zU) | ((with_reducible first | apply p_bs0 tkQ1); exact zT; exact zU; exact zT) | ((with_reducible first | apply p_ap0 tkQ1); exact zT; exact zU; exact zT; exact zT; exact zU; exact zA; exact zV; (focus (first | exact Or.inl rfl | exact Or.inr rfl))) | ((with_reducible first | apply p_bytes tkQ1); exact zT; exact zU; exact zT; exact zU; exact zT; exact zU; exact zV))); decide) | ((with_reducible first | apply w_iff'); exact zV; exact zU) | ((with_reducible apply w_ret); (repeat refine Red.h ?_); (with_reducible first | apply donef_ret tkQ1 | apply doneA_ret tkQ1); exact zT; exact zD) | fail
  all_goals try clear tE
  exact ⟨rfl, rfl, rfl⟩
/-- The line's put, where there is no room. -/
theorem ac152f (H : Heap) (n L id : Nat) (q m : List Un) (most : Int) (hL : H L = some (.cells [ownR id 4 (unRows q)] 98)) (hLn : L < n) (hq : q.length ≤ 1000) (hmost : 0 ≤ most ∧ most ≤ 1000)
    (hroom : ¬ (q.length : Int) + m.length ≤ most) :
    AC Tryz.prog 152 [.ptr L 0, .int .i64 most, .view (unRows m)] H n (fun r h' n' => r = .ret (.bool false) ∧ h' = H ∧ n' = n) := by
  refine ac_of_w Tryz.func152 (c := _) rfl (Nat.le_of_ble_eq_true rfl) ?_
  rw [show Tryz.f152.ntmps = 26 from rfl]
  have hml := unRows_len m
  rcases Nat.eq_zero_or_pos q.length with hz | hz
  · obtain rfl := List.eq_nil_of_length_eq_zero hz
    rw [show ownR id 4 (unRows []) = .empty from rfl] at hL
    have wr0 : IntKind.i64.wrap (most - 0) = most := by rw [wrap64 (by omega) (by omega)]; omega
    have hgt : ((m.length : Int) > most) := by simp at hroom; omega
    have tE := aI uU <| aI hL <| aI hml <| aI wr0 <| aI hgt <| tfQ11.down; repeat' first | (refine Red.h ?_) | ((with_reducible first | apply wz tkQ1 | apply wr_z tkQ1); exact zZ; decide) | ((with_reducible first | apply w_ift'); exact zV; exact zU) | ((with_reducible apply w_ret); (repeat refine Red.h ?_); (with_reducible first | apply donef_ret tkQ1 | apply doneA_ret tkQ1); exact zT; exact zD) | fail
    all_goals try clear tE
    exact ⟨rfl, rfl, rfl⟩
  · rw [ownR_pos id 4 (show 0 < (unRows q).length by rw [unRows_len]; exact hz), unRows_len] at hL
    have wr : IntKind.i64.wrap (most - (q.length : Int)) = most - q.length := wrap64 (by omega) (by omega)
    have hgt : ((m.length : Int) > most - q.length) := by omega
    have tE := aI uU <| aI hL <| aI hml <| aI wr <| aI hgt <| tfQ11.down; repeat' first | (refine Red.h ?_) | ((with_reducible first | apply wz tkQ1 | apply wr_z tkQ1); exact zZ; decide) | ((with_reducible first | apply w_ift'); exact zV; exact zU) | ((with_reducible apply w_ret); (repeat refine Red.h ?_); (with_reducible first | apply donef_ret tkQ1 | apply doneA_ret tkQ1); exact zT; exact zD) | fail
    all_goals try clear tE
    exact ⟨rfl, rfl, rfl⟩
def put1 (c : Cf) (q m : List Un) : Bool := qok c q && m.all (mayU c)
def putU (c : Cf) (q m : List Un) : List Un := if put1 c q m = true ∧ (q.length : Int) + m.length ≤ c.q then q ++ m else []
def putE (c : Cf) (q m : List Un) : Int := if put1 c q m = true then (if (q.length : Int) + m.length ≤ c.q then 0 else 230) else 8
theorem ue_pur (l : List Un) (e : Int) : Pur (.tuple [.view (unRows l), .int .i64 e]) := .tuple (fun x hx => by
  simp only [List.mem_cons, List.not_mem_nil, or_false] at hx
  rcases hx with rfl | rfl
  · exact unRows_pur _
  · exact .int _ _)
theorem ue_weak {f : FuncId} {args : List AV} {e : Int} (h : PF Tryz.prog f args (fun r => r = .tuple [.empty, .int .i64 e])) : PF Tryz.prog f args (fun r => r = .tuple [.view (unRows []), .int .i64 e]) :=
  h.weak (.tuple (.cons .empty (.cons (.refl _) .nil))) (ue_pur [] e)
theorem pf132_bad (c : Cf) (q m : List Un) (hq : q.length ≤ 1000) (hm : m.length ≤ 1000) (h : put1 c q m = false) : PF Tryz.prog 132 [.agg c.cells, .view (unRows q), .view (unRows m)] (fun r => r = .tuple [.empty, .int .i64 8]) := by
  refine pf_of_w0 Tryz.func132 (c := _) rfl rfl (Nat.le_of_ble_eq_true rfl) (args_cll c q m) ?_
  rw [show Tryz.f132.ntmps = 33 from rfl]
  cases hk : qok c q with
  | false =>
    have e1 : (if qok c q = true then (0 : Int) else 8) = 8 := if_neg (by rw [hk]; simp)
    have tE := aI uU <| aI Cf.cells.eq_1 <| aI e1 <| tfQ12.down; repeat' first | (refine Red.h ?_) | ((with_reducible first | apply wz tkQ1 | apply wr_z tkQ1); exact zZ; decide) | ((with_reducible first | apply wskip' | apply wr_skip); exact zU; exact zL; exact zU; decide) | ((with_reducible first | apply wcall' | apply wr_call); exact zV; exact zVs; exact zAs; (focus (with_unfolding_all first | exact pf44 c q (by omega) | exact pf79 c m (by omega))); decide) | ((with_reducible first | apply w_ift'); exact zV; exact zU) | ((with_reducible apply w_ret); (repeat refine Red.h ?_); (with_reducible apply done_ret tkQ1); exact zT; exact zD; exact zX) | fail
    all_goals try clear tE
    rfl
  | true =>
    have e1 : (if qok c q = true then (0 : Int) else 8) = 0 := if_pos hk
    have ha : m.all (mayU c) = false := by simp only [put1, hk, Bool.true_and] at h; exact h
    have ho := odd_eq c m
    rw [ha] at ho
    have tE := aI uU <| aI Cf.cells.eq_1 <| aI e1 <| aI ho <| tfQ12.down; repeat' first | (refine Red.h ?_) | ((with_reducible first | apply wz tkQ1 | apply wr_z tkQ1); exact zZ; decide) | ((with_reducible first | apply wzg tkQ1 | apply wr_zg tkQ1); exact zU; exact zL; exact zU; exact zZ; decide) | ((with_reducible first | apply wcall' | apply wr_call); exact zV; exact zVs; exact zAs; (focus (with_unfolding_all first | exact pf44 c q (by omega) | exact pf79 c m (by omega))); decide) | ((with_reducible first | apply wcallg' | apply wr_callg); exact zU; exact zL; exact zU; exact zV; exact zVs; exact zAs; (focus (with_unfolding_all first | exact pf44 c q (by omega) | exact pf79 c m (by omega))); decide) | ((with_reducible first | apply w_ift'); exact zV; exact zU) | ((with_reducible apply w_ret); (repeat refine Red.h ?_); (with_reducible apply done_ret tkQ1); exact zT; exact zD; exact zX) | fail
    all_goals try clear tE
    rfl
theorem pf132_full (c : Cf) (q m : List Un) (hq : q.length ≤ 1000) (hm : m.length ≤ 1000) (hdq : ∀ u, u ∈ q → u.d.length ≤ 1000000) (hdm : ∀ u, u ∈ m → u.d.length ≤ 1000000) (h : put1 c q m = true) (hroom : ¬ (q.length : Int) + m.length ≤ c.q) : PF Tryz.prog 132 [.agg c.cells, .view (unRows q), .view (unRows m)] (fun r => r = .tuple [.empty, .int .i64 230]) := by
  have hk : qok c q = true := by simp only [put1, Bool.and_eq_true] at h; exact h.1
  have ha : m.all (mayU c) = true := by simp only [put1, Bool.and_eq_true] at h; exact h.2
  have hgood : c.good = true := by simp only [qok, Bool.and_eq_true] at hk; exact hk.1.1
  have hcq := cf_q hgood
  have e1 : (if qok c q = true then (0 : Int) else 8) = 0 := if_pos hk
  have ho := odd_eq c m
  rw [ha] at ho
  refine pf_of_w0 Tryz.func132 (c := _) rfl rfl (Nat.le_of_ble_eq_true rfl) (args_cll c q m) ?_
  rw [show Tryz.f132.ntmps = 33 from rfl]
  rcases Nat.eq_zero_or_pos q.length with hz | hz
  · obtain rfl := List.eq_nil_of_length_eq_zero hz
    have s63 := fun H n hL hLn => ac152f H n 0 0 [] m c.q hL hLn (by simp) (by omega) hroom
    have s43 := pf41 m (by omega) hdm
    have tE := aI uU <| aI Cf.cells.eq_1 <| aI e1 <| aI ho <| tfQ12.down; repeat' first | (refine Red.h ?_) | ((with_reducible apply l_box (d := 21)); exact zV; exact zU; decide) | ((with_reducible apply w_live (lvAt [[0, 1, 2], [1, 2, 3], [], [1, 2, 3], [2, 3, 8], [], [8]])); (focus (simp only [lvAt_zero, lvAt_succ]; rfl)); exact zLv) | ((with_reducible first | apply wz tkQ1 | apply wr_z tkQ1); exact zZ; decide) | ((with_reducible first | apply wzg tkQ1 | apply wr_zg tkQ1); exact zU; exact zL; exact zU; exact zZ; decide) | ((with_reducible first | apply wcall' | apply wr_call); exact zV; exact zVs; exact zAs; (focus (with_unfolding_all first | exact pf44 c [] (by simp) | exact pf79 c m (by omega) | exact pf41_nilE | exact s43)); decide) | ((with_reducible first | apply wcallg' | apply wr_callg); exact zU; exact zL; exact zU; exact zV; exact zVs; exact zAs; (focus (with_unfolding_all first | exact pf44 c [] (by simp) | exact pf79 c m (by omega) | exact pf41_nilE | exact s43)); decide) | ((with_reducible first | apply m_calle); exact zU; exact zV; exact zVs; exact zAs; (focus (first | exact ⟨_, Tryz.func152, rfl, rfl⟩)); (focus (with_unfolding_all first | exact s63 _ _ rfl (by decide))); decide) | ((with_reducible first | apply w_ift'); exact zV; exact zU) | ((with_reducible first | apply w_iff'); exact zV; exact zU) | ((with_reducible first | apply fm_nil | apply fm_cons)) | ((with_reducible apply m_next); exact zU) | ((with_reducible apply m_nil0); exact zU) | ((with_reducible first | apply m_v tkQ1); exact zU; exact zZ; decide) | ((with_reducible first | apply m_call); exact zU; exact zV; exact zVs; exact zAs; (focus (with_unfolding_all first | exact pf44 c [] (by simp) | exact pf79 c m (by omega) | exact pf41_nilE | exact s43)); decide) | ((with_reducible apply w_drawN (id := 4) [5] [([5], [0, 1, 2, 3, 4, 5, 6])] mixed); (focus (decide +kernel))) | ((with_reducible apply w_ret); (repeat refine Red.h ?_); (with_reducible apply done_ret tkQ1); exact zT; exact zD; exact zX) | fail
    all_goals try clear tE
    rfl
  · have s63 := fun (H : Heap) (n : Nat) (hL : H 1 = some (.cells [.slice 0 0 q.length none 4] 98)) hLn => ac152f H n 1 0 q m c.q (by rw [ownR_pos 0 4 (show 0 < (unRows q).length by rw [unRows_len]; exact hz), unRows_len]; exact hL) hLn (by omega) (by omega) hroom
    have s43 := pf41 m (by omega) hdm
    have t43 := ac41o q hz (by omega) hdq
    have tE := aI uU <| aI Cf.cells.eq_1 <| aI e1 <| aI ho <| tfQ12.down; repeat' first | (refine Red.h ?_) | ((with_reducible apply l_box (d := 21)); exact zV; exact zU; decide) | ((with_reducible apply w_live (lvAt [[0, 1, 2], [1, 2, 3], [], [1, 2, 3], [2, 3, 8], [], [8]])); (focus (simp only [lvAt_zero, lvAt_succ]; rfl)); exact zLv) | ((with_reducible first | apply wz tkQ1 | apply wr_z tkQ1); exact zZ; decide) | ((with_reducible first | apply wzg tkQ1 | apply wr_zg tkQ1); exact zU; exact zL; exact zU; exact zZ; decide) | ((with_reducible first | apply wcall' | apply wr_call); exact zV; exact zVs; exact zAs; (focus (with_unfolding_all first | exact pf44 c q (by omega) | exact pf79 c m (by omega) | exact s43)); decide) | ((with_reducible first | apply wcallg' | apply wr_callg); exact zU; exact zL; exact zU; exact zV; exact zVs; exact zAs; (focus (with_unfolding_all first | exact pf44 c q (by omega) | exact pf79 c m (by omega) | exact s43)); decide) | ((with_reducible first | apply wacall'); exact zV; exact zVs; exact zAs; (focus (first | exact ⟨_, Tryz.func152, rfl, rfl⟩ | exact ⟨_, Tryz.func41, rfl, rfl⟩)); (focus (with_unfolding_all first | exact t43 _ _ | exact s63 _ _ rfl (by decide))); decide) | ((with_reducible first | apply m_calle); exact zU; exact zV; exact zVs; exact zAs; (focus (first | exact ⟨_, Tryz.func152, rfl, rfl⟩ | exact ⟨_, Tryz.func41, rfl, rfl⟩)); (focus (with_unfolding_all first | exact t43 _ _ | exact s63 _ _ rfl (by decide))); decide) | ((with_reducible first | apply w_ift'); exact zV; exact zU) | ((with_reducible first | apply w_iff'); exact zV; exact zU) | ((with_reducible first | apply fm_nil | apply fm_cons)) | ((with_reducible apply m_next); exact zU) | ((with_reducible apply m_nil0); exact zU) | ((with_reducible first | apply m_v tkQ1); exact zU; exact zZ; decide) | ((with_reducible first | apply m_call); exact zU; exact zV; exact zVs; exact zAs; (focus (with_unfolding_all first | exact pf44 c q (by omega) | exact pf79 c m (by omega) | exact s43)); decide) | ((with_reducible apply w_drawN (id := 4) [5] [([5], [0, 1, 2, 3, 4, 5, 6])] mixed); (focus (decide +kernel))) | ((with_reducible apply w_ret); (repeat refine Red.h ?_); (with_reducible apply done_ret tkQ1); exact zT; exact zD; exact zX) | fail
    all_goals try clear tE
    rfl
theorem pf132_ok (c : Cf) (q m : List Un) (hq : q.length ≤ 1000) (hm : m.length ≤ 1000) (hdq : ∀ u, u ∈ q → u.d.length ≤ 1000000) (hdm : ∀ u, u ∈ m → u.d.length ≤ 1000000) (h : put1 c q m = true) (hroom : (q.length : Int) + m.length ≤ c.q) : PF Tryz.prog 132 [.agg c.cells, .view (unRows q), .view (unRows m)] (fun r => r = .tuple [.view (unRows (q ++ m)), .int .i64 0]) := by
  have hk : qok c q = true := by simp only [put1, Bool.and_eq_true] at h; exact h.1
  have ha : m.all (mayU c) = true := by simp only [put1, Bool.and_eq_true] at h; exact h.2
  have hgood : c.good = true := by simp only [qok, Bool.and_eq_true] at hk; exact hk.1.1
  have hcq := cf_q hgood
  have e1 : (if qok c q = true then (0 : Int) else 8) = 0 := if_pos hk
  have ho := odd_eq c m
  rw [ha] at ho
  have hqm : (unRows (q ++ m)).length = q.length + m.length := by rw [unRows_len, List.length_append]
  refine pf_of_wf0 Tryz.func132 (c := _) rfl rfl (Nat.le_of_ble_eq_true rfl) (args_cll c q m) ?_
  rw [show Tryz.f132.ntmps = 33 from rfl]
  rcases Nat.eq_zero_or_pos q.length with hz | hz
  · rcases Nat.eq_zero_or_pos m.length with hy | hy
    · obtain rfl := List.eq_nil_of_length_eq_zero hz
      obtain rfl := List.eq_nil_of_length_eq_zero hy
      have s63 := fun H n hL hLn => ac152e H n 0 c.q hL hLn (by omega)
      have s43 := pf41 [] (by simp) hdm
      have tE := aI uU <| aI Cf.cells.eq_1 <| aI e1 <| aI ho <| tfQ12.down; repeat' first | (refine Red.h ?_) | ((with_reducible apply l_box (d := 21)); exact zV; exact zU; decide) | ((with_reducible apply w_live (lvAt [[0, 1, 2], [1, 2, 3], [], [1, 2, 3], [2, 3, 8], [], [8]])); (focus (simp only [lvAt_zero, lvAt_succ]; rfl)); exact zLv) | ((with_reducible first | apply wz tkQ1 | apply wr_z tkQ1); exact zZ; decide) | ((with_reducible first | apply wzg tkQ1 | apply wr_zg tkQ1); exact zU; exact zL; exact zU; exact zZ; decide) | ((with_reducible first | apply wcall' | apply wr_call); exact zV; exact zVs; exact zAs; (focus (with_unfolding_all first | exact pf44 c [] (by simp) | exact pf79 c [] (by simp) | exact pf41_nilE)); decide) | ((with_reducible first | apply wcallg' | apply wr_callg); exact zU; exact zL; exact zU; exact zV; exact zVs; exact zAs; (focus (with_unfolding_all first | exact pf44 c [] (by simp) | exact pf79 c [] (by simp) | exact pf41_nilE)); decide) | ((with_reducible first | apply m_calle); exact zU; exact zV; exact zVs; exact zAs; (focus (first | exact ⟨_, Tryz.func152, rfl, rfl⟩)); (focus (with_unfolding_all first | exact s63 _ _ rfl (by decide))); decide) | ((with_reducible first | apply w_iff'); exact zV; exact zU) | ((with_reducible first | apply fm_nil | apply fm_cons)) | ((with_reducible apply m_next); exact zU) | ((with_reducible apply m_nil0); exact zU) | ((with_reducible first | apply m_v tkQ1); exact zU; exact zZ; decide) | ((with_reducible first | apply m_call); exact zU; exact zV; exact zVs; exact zAs; (focus (with_unfolding_all first | exact pf44 c [] (by simp) | exact pf79 c [] (by simp) | exact pf41_nilE)); decide) | ((with_reducible apply w_drawN (id := 4) [5] [([5], [0, 1, 2, 3, 4, 5, 6])] mixed); (focus (decide +kernel))) | ((with_reducible apply w_ret); (repeat refine Red.h ?_); (with_reducible first | apply donef_ret tkQ1 | apply doneA_ret tkQ1); exact zT; exact zD) | fail
      all_goals try clear tE
      · exact FzL.tuple (ys := [.view [], .int .i64 0]) (.cons .nothing (.cons (.pur (.int _ _)) .nil))
      · exact ue_pur [] 0
      · rfl
    · obtain rfl := List.eq_nil_of_length_eq_zero hz
      have s63 := fun H n hL hLn => ac152 H n 0 0 [] m c.q hL (fun h => by cases h) (fun h => by cases h) hLn (by simp) (fun _ => hy) hm (by omega) hroom
      have s43 := pf41 m (by omega) hdm
      have hnp : ¬ 0 < ([] : List Un).length := by simp
      have tE := aI uU <| aI Cf.cells.eq_1 <| aI e1 <| aI ho <| tfQ12.down; repeat' first | (refine Red.h ?_) | ((with_reducible apply l_box (d := 21)); exact zV; exact zU; decide) | ((with_reducible apply w_live (lvAt [[0, 1, 2], [1, 2, 3], [], [1, 2, 3], [2, 3, 8], [], [8]])); (focus (simp only [lvAt_zero, lvAt_succ]; rfl)); exact zLv) | ((with_reducible first | apply wz tkQ1 | apply wr_z tkQ1); exact zZ; decide) | ((with_reducible first | apply wzg tkQ1 | apply wr_zg tkQ1); exact zU; exact zL; exact zU; exact zZ; decide) | ((with_reducible first | apply wcall' | apply wr_call); exact zV; exact zVs; exact zAs; (focus (with_unfolding_all first | exact pf44 c [] (by simp) | exact pf79 c m (by omega) | exact pf41_nilE | exact s43)); decide) | ((with_reducible first | apply wcallg' | apply wr_callg); exact zU; exact zL; exact zU; exact zV; exact zVs; exact zAs; (focus (with_unfolding_all first | exact pf44 c [] (by simp) | exact pf79 c m (by omega) | exact pf41_nilE | exact s43)); decide) | ((with_reducible first | apply m_calle); exact zU; exact zV; exact zVs; exact zAs; (focus (first | exact ⟨_, Tryz.func152, rfl, rfl⟩)); (focus (with_unfolding_all first | exact s63 _ _ rfl (by decide))); decide) | ((with_reducible first | apply w_iff'); exact zV; exact zU) | ((with_reducible first | apply fm_nil | apply fm_cons)) | ((with_reducible apply m_next); exact zU) | ((with_reducible apply m_nil0); exact zU) | ((with_reducible first | apply m_v tkQ1); exact zU; exact zZ; decide) | ((with_reducible first | apply m_call); exact zU; exact zV; exact zVs; exact zAs; (focus (with_unfolding_all first | exact pf44 c [] (by simp) | exact pf79 c m (by omega) | exact pf41_nilE | exact s43)); decide) | ((with_reducible apply w_drawN (id := 4) [5] [([5], [0, 1, 2, 3, 4, 5, 6])] mixed); (focus (decide +kernel))) | ((with_reducible apply w_ret); (repeat refine Red.h ?_); (with_reducible first | apply donef_ret tkQ1 | apply doneA_ret tkQ1); exact zT; exact zD) | fail
      all_goals try clear tE
      · refine FzL.tuple (ys := [.view (unRows m), .int .i64 0]) (.cons ?_ (.cons (.pur (.int _ _)) .nil))
        exact fz_rowsL (e := 58) (by simp [unRows_len]) (unRows_row m) (unRows_pur m) rfl
      · exact ue_pur m 0
      · rfl
  · have t43 := ac41o q hz (by omega) hdq
    have s43 := pf41 m (by omega) hdm
    have s63 := fun (H : Heap) (n : Nat) (hL : H 1 = some (.cells [.slice 0 0 q.length none 4] 98)) hid hLn => ac152 H n 1 0 q m c.q (by rw [ownR_pos 0 4 (show 0 < (unRows q).length by rw [unRows_len]; exact hz), unRows_len]; exact hL) (fun _ => hid) (fun _ => by decide) hLn hq (fun h => absurd h (by omega)) hm (by omega) hroom
    have tE := aI uU <| aI Cf.cells.eq_1 <| aI e1 <| aI ho <| tfQ12.down; repeat' first | (refine Red.h ?_) | ((with_reducible apply l_box (d := 21)); exact zV; exact zU; decide) | ((with_reducible apply w_live (lvAt [[0, 1, 2], [1, 2, 3], [], [1, 2, 3], [2, 3, 8], [], [8]])); (focus (simp only [lvAt_zero, lvAt_succ]; rfl)); exact zLv) | ((with_reducible first | apply wz tkQ1 | apply wr_z tkQ1); exact zZ; decide) | ((with_reducible first | apply wzg tkQ1 | apply wr_zg tkQ1); exact zU; exact zL; exact zU; exact zZ; decide) | ((with_reducible first | apply wcall' | apply wr_call); exact zV; exact zVs; exact zAs; (focus (with_unfolding_all first | exact pf44 c q (by omega) | exact pf79 c m (by omega) | exact s43)); decide) | ((with_reducible first | apply wcallg' | apply wr_callg); exact zU; exact zL; exact zU; exact zV; exact zVs; exact zAs; (focus (with_unfolding_all first | exact pf44 c q (by omega) | exact pf79 c m (by omega) | exact s43)); decide) | ((with_reducible first | apply wacall'); exact zV; exact zVs; exact zAs; (focus (first | exact ⟨_, Tryz.func152, rfl, rfl⟩ | exact ⟨_, Tryz.func41, rfl, rfl⟩)); (focus (with_unfolding_all first | exact t43 _ _ | exact s63 _ _ rfl rfl (by decide))); decide) | ((with_reducible first | apply m_calle); exact zU; exact zV; exact zVs; exact zAs; (focus (first | exact ⟨_, Tryz.func152, rfl, rfl⟩ | exact ⟨_, Tryz.func41, rfl, rfl⟩)); (focus (with_unfolding_all first | exact t43 _ _ | exact s63 _ _ rfl rfl (by decide))); decide) | ((with_reducible first | apply w_iff'); exact zV; exact zU) | ((with_reducible first | apply fm_nil | apply fm_cons)) | ((with_reducible apply m_next); exact zU) | ((with_reducible apply m_nil0); exact zU) | ((with_reducible first | apply m_v tkQ1); exact zU; exact zZ; decide) | ((with_reducible first | apply m_call); exact zU; exact zV; exact zVs; exact zAs; (focus (with_unfolding_all first | exact pf44 c q (by omega) | exact pf79 c m (by omega) | exact s43)); decide) | ((with_reducible apply w_drawN (id := 4) [5] [([5], [0, 1, 2, 3, 4, 5, 6])] mixed); (focus (decide +kernel))) | ((with_reducible apply w_ret); (repeat refine Red.h ?_); (with_reducible first | apply donef_ret tkQ1 | apply doneA_ret tkQ1); exact zT; exact zD) | fail
    all_goals try clear tE
    · refine FzL.tuple (ys := [.view (unRows (q ++ m)), .int .i64 0]) (.cons ?_ (.cons (.pur (.int _ _)) .nil))
      exact fz_rowsL (e := 58) (by rw [unRows_len, List.length_append]) (unRows_row (q ++ m)) (unRows_pur (q ++ m)) rfl
    · exact ue_pur (q ++ m) 0
    · rfl
theorem pf132 (c : Cf) (q m : List Un) (hq : q.length ≤ 1000) (hm : m.length ≤ 1000) (hdq : ∀ u, u ∈ q → u.d.length ≤ 1000000) (hdm : ∀ u, u ∈ m → u.d.length ≤ 1000000) : PF Tryz.prog 132 [.agg c.cells, .view (unRows q), .view (unRows m)] (fun r => r = .tuple [.view (unRows (putU c q m)), .int .i64 (putE c q m)]) := by
  cases h : put1 c q m with
  | false =>
    rw [show putU c q m = [] from if_neg (by rw [h]; simp), show putE c q m = 8 from if_neg (by rw [h]; simp)]
    exact ue_weak (pf132_bad c q m hq hm h)
  | true =>
    by_cases hr : (q.length : Int) + m.length ≤ c.q
    · rw [show putU c q m = q ++ m from if_pos ⟨h, hr⟩, show putE c q m = 0 by simp [putE, h, hr]]
      exact pf132_ok c q m hq hm hdq hdm h hr
    · rw [show putU c q m = [] from if_neg (fun hh => hr hh.2), show putE c q m = 230 by simp only [putE, h, hr, if_true, if_false]]
      exact ue_weak (pf132_full c q m hq hm hdq hdm h hr)
end Go.Proofs.YtlmighkbeacjnaaGreatDoor


open Go Go.Lg
set_option linter.unusedSimpArgs false
set_option linter.unusedVariables false
set_option maxHeartbeats 4000000
set_option maxRecDepth 20000
namespace Go.Proofs.YtlmighkbeacjnaaGreatDoor
theorem tkQ2 : TOK Tryz.prog (tyOf Tryz.prog) := tok Tryz.prog
def tfQ20 := PLift.up (aI ty3 <| aI ty4 <| aI ty5 <| aI ty27 <| aI ty28 <| aI ty58 <| Tryz.results153)
theorem pf136 (l : List Un) : PF Tryz.prog 136 [.view (unRows l)] (fun r => r = .func (.func 153) [] [.vptr [.view (unRows l)]]) := by
  refine pf_of_w0 Tryz.func136 (c := _) rfl rfl (Nat.le_of_ble_eq_true rfl) (fun x hx => by rcases List.mem_singleton.1 hx with rfl; exact unRows_pur l) ?_
  rw [show Tryz.f136.ntmps = 4 from rfl]
  have hv := unRows_pur l
  have hp : Pur (.func (.func 153) [] [.vptr [.view (unRows l)]]) := by
    rw [pur_func]
    refine ⟨fun _ h => (nomatch h), fun x hx => ?_⟩
    rcases List.mem_singleton.1 hx with rfl
    rw [pur_vptr]
    intro x hx
    rcases List.mem_singleton.1 hx with rfl
    exact hv
  have tE := aI uU <| aI Cf.cells.eq_1 <| aI ty3 <| aI ty5 <| aI ty27 <| aI ty28 <| aI ty58 <| Tryz.results136; repeat' first | (refine Red.h ?_) | ((with_reducible first | apply wz tkQ2 | apply wr_z tkQ2); exact zZ; decide) | ((with_reducible apply w_ret); (repeat refine Red.h ?_); (with_reducible apply done_ret tkQ2); exact zT; exact zD; exact zX) | fail
  all_goals try clear tE
  rfl
theorem ac153 (l : List Un) (hl : l.length ≤ 1000000) (id k : Nat) (H0 : Heap) (J S : Nat → Heap → Nat → Prop)
    (hround : ∀ i u H n, l[i]? = some u → J (i + 1) H n → YC Tryz.prog id [.int .i64 i, .agg u.cells] H n (fun b H' n' => (b = true ∧ J i H' n') ∨ (b = false ∧ S i H' n')))
    (h0 : J l.length H0 k) : AC Tryz.prog 153 [.yieldf id, .vptr [.view (unRows l)]] H0 k (fun r H n => r = .ret (.tuple []) ∧ (J 0 H n ∨ ∃ i, S i H n)) := by
  have hlr : (unRows l).length = l.length := unRows_len l
  have e1 : IntKind.i64.wrap ((l.length : Int) - 1) = (l.length : Int) - 1 := wrap64 (by omega) (by omega)
  refine ac_of_wd Tryz.func153 (c := _) rfl (Nat.le_of_ble_eq_true rfl) ?_
  rw [show Tryz.f153.ntmps = 19 from rfl]
  have tE := aI uU <| aI hlr <| aI e1 <| tfQ20.down; repeat' first | (refine Red.h ?_) | ((with_reducible first | apply wz tkQ2 | apply wr_z tkQ2); exact zZ; decide) | fail
  all_goals try clear tE
  refine w_loop (fun kk σ => kk ≤ l.length ∧ J kk σ.h σ.n ∧ σ.tm 0 = .yieldf id ∧ σ.tm 1 = .vptr [.view (unRows l)] ∧ σ.tm 3 = .int .i64 ((kk : Int) - 1) ∧ σ.df = []) l.length ⟨Nat.le_refl _, h0, rfl, rfl, rfl, rfl⟩ ?_
  rintro kk ⟨tm, H, nn, df⟩ ⟨hk, hJ, t0, t1, t3, rfl⟩
  simp only at t0 t1 t3 hJ
  cases kk with
  | zero =>
    have t3 : tm 3 = .int .i64 (-1) := t3
    have g1 : ((-1 : Int) ≥ 0) = False := eq_false (by decide)
    have tE := aI uU <| aI t0 <| aI t1 <| aI t3 <| aI g1 <| tfQ20.down; repeat' first | (refine Red.h ?_) | ((with_reducible first | apply wz tkQ2 | apply wr_z tkQ2); exact zZ; decide) | ((with_reducible first | apply w_iff'); exact zV; exact zU) | fail
    all_goals try clear tE
    exact ⟨trivial, .tuple [], resv_of (xs := []) tkQ2 rfl, rfl, .inl hJ⟩
  | succ i =>
    have t3 : tm 3 = .int .i64 (i : Int) := by rw [t3]; congr 1; omega
    obtain ⟨u, hu⟩ : ∃ u, l[i]? = some u := ⟨l[i]'(by omega), List.getElem?_eq_getElem _⟩
    have hg : (unRows l)[i]? = some u.cells := by simp [unRows, hu]
    have g1 : ((i : Int) ≥ 0) = True := eq_true (by omega)
    have e2 : IntKind.i64.wrap ((i : Int) - 1) = (i : Int) - 1 := wrap64 (by omega) (by omega)
    have hy := hround i u H nn hu hJ
    have ht4 : u.cells.take 4 = u.cells := rfl
    have tE := aI uU <| aI t0 <| aI t1 <| aI t3 <| aI g1 <| aI hg <| aI hlr <| aI e2 <| aI ht4 <| tfQ20.down; repeat' first | (refine Red.h ?_) | ((with_reducible first | apply wz tkQ2 | apply wr_z tkQ2); exact zZ; decide) | ((with_reducible first | apply w_ift'); exact zV; exact zU) | fail
    all_goals try clear tE
    refine wl_yield (by simp only [evo, t0, sp_cons, sp_nil, upd_b, Nat.reduceBEq, cond_true, cond_false, args0_zero, args0_succ, args0_nil]; rfl) (by simp only [evs, evo, sp_cons, sp_nil, upd_b, Nat.reduceBEq, cond_true, cond_false, args0_zero, args0_succ, args0_nil]; rfl) (by exact hy) (by decide) ?_
    rintro b H' n' (⟨rfl, hJ'⟩ | ⟨rfl, hS⟩)
    · have tE := aI uU <| aI t0 <| aI t1 <| aI t3 <| aI g1 <| aI hg <| aI hlr <| aI e2 <| aI ht4 <| tfQ20.down; repeat' first | (refine Red.h ?_) | ((with_reducible first | apply wz tkQ2 | apply wr_z tkQ2); exact zZ; decide) | ((with_reducible first | apply w_iff'); exact zV; exact zU) | fail
      all_goals try clear tE
      exact ⟨i, by omega, by omega, hJ', by simp only [sp_cons, sp_nil, upd_b, Nat.reduceBEq, cond_true, cond_false, args0_zero, args0_succ, args0_nil, t0], by simp only [sp_cons, sp_nil, upd_b, Nat.reduceBEq, cond_true, cond_false, args0_zero, args0_succ, args0_nil, t1], by simp only [sp_cons, sp_nil, upd_b, Nat.reduceBEq, cond_true, cond_false, args0_zero, args0_succ, args0_nil, t3], rfl⟩
    · have tE := aI uU <| aI t0 <| aI t1 <| aI t3 <| aI g1 <| aI hg <| aI hlr <| aI e2 <| aI ht4 <| tfQ20.down; repeat' first | (refine Red.h ?_) | ((with_reducible first | apply wz tkQ2 | apply wr_z tkQ2); exact zZ; decide) | ((with_reducible first | apply w_ift'); exact zV; exact zU) | fail
      all_goals try clear tE
      refine w_ret ?_
      exact ⟨trivial, .tuple [], resv_of (xs := []) tkQ2 rfl, rfl, .inr ⟨_, hS⟩⟩
/-- One more than the place of the last unit of page d; 0 where there is none. -/
def lastP (d : Int) : List Un → Nat
  | [] => 0
  | u :: us => if lastP d us ≠ 0 then lastP d us + 1 else if u.p = d then 1 else 0
theorem lastP_app (d : Int) : ∀ (a b : List Un), lastP d (a ++ b) = if lastP d b ≠ 0 then a.length + lastP d b else lastP d a
  | [], b => by
    show lastP d b = _
    by_cases h : lastP d b = 0
    · simp [h, lastP]
    · simp [h]
  | u :: a, b => by
    have ih := lastP_app d a b
    show (if lastP d (a ++ b) ≠ 0 then lastP d (a ++ b) + 1 else if u.p = d then 1 else 0) = _
    rw [ih]
    by_cases h : lastP d b = 0
    · simp [h, lastP]
    · simp only [h, ne_eq, not_false_eq_true, if_true, List.length_cons]
      rw [if_pos (by omega)]; omega
theorem lastP_snoc (d : Int) (a : List Un) (u : Un) : lastP d (a ++ [u]) = if u.p = d then a.length + 1 else lastP d a := by
  rw [lastP_app]
  by_cases h : u.p = d <;> simp [lastP, h]
theorem lastP_none (d : Int) : ∀ (l : List Un), (∀ (i : Nat) (u : Un), l[i]? = some u → u.p ≠ d) → lastP d l = 0
  | [], _ => rfl
  | u :: us, h => by
    have h0 : u.p ≠ d := h 0 u rfl
    have ih := lastP_none d us (fun i v hv => h (i + 1) v hv)
    simp [lastP, ih, h0]
theorem lastP_at (d : Int) (l : List Un) (i : Nat) (u : Un) (hu : l[i]? = some u) (hp : u.p = d) (h : ∀ (j : Nat) (v : Un), l[j]? = some v → i < j → v.p ≠ d) : lastP d l = i + 1 := by
  have hlt : i < l.length := by
    rcases Nat.lt_or_ge i l.length with h | h
    · exact h
    · rw [List.getElem?_eq_none h] at hu; cases hu
  have e : l = l.take (i + 1) ++ l.drop (i + 1) := (List.take_append_drop _ _).symm
  have hd : lastP d (l.drop (i + 1)) = 0 := lastP_none d _ (fun j v hv => h (i + 1 + j) v (by rw [List.getElem?_drop] at hv; exact hv) (by omega))
  rw [e, lastP_app, if_neg (by simp [hd]), List.take_add_one, hu]
  show lastP d (l.take i ++ [u]) = _
  rw [lastP_snoc, if_pos hp, List.length_take, Nat.min_eq_left (by omega)]
def ahI (c : Cf) (q : List Un) (d : Int) : Int := if qok c q = true then (lastP d q : Int) else 0
def ahE (c : Cf) (q : List Un) (d : Int) : Int := if qok c q = true then (if lastP d q = 0 then 6 else 0) else 8
theorem args_cli (c : Cf) (l : List Un) (d : Int) : ∀ x, x ∈ [AV.agg c.cells, AV.view (unRows l), AV.int .i64 d] → Pur x := by
  intro x hx
  simp only [List.mem_cons, List.not_mem_nil, or_false] at hx
  rcases hx with rfl | rfl | rfl
  · exact .agg (cells_pur c)
  · exact unRows_pur l
  · exact .int _ _
end Go.Proofs.YtlmighkbeacjnaaGreatDoor


open Go Go.Lg
set_option linter.unusedSimpArgs false
set_option linter.unusedVariables false
set_option maxHeartbeats 4000000
set_option maxRecDepth 20000
namespace Go.Proofs.YtlmighkbeacjnaaGreatDoor
theorem tkQ3 : TOK Tryz.prog (tyOf Tryz.prog) := tok Tryz.prog
def tfQ30 := PLift.up (aI ty3 <| aI ty5 <| aI ty23 <| aI ty28 <| aI ty34 <| aI ty58 <| Tryz.results99)
/-- The memory of Ahead's loop. -/
def HQ (a b : Int) (lb : LoopB) : Heap := upd (upd (upd (upd noHeap 0 (some (.cells [.int .i64 a] 3))) 1 (some (.cells [.int .i64 b] 34))) 2 (some .deferred)) 3 (some (.loop lb))
theorem heap_q1 {n : Nat} (hn : 4 ≤ n) (X0 X1 D L A L2 Y0 Y1 L3 : Option Blk) :
    upd (upd (upd (upd (upd (upd (upd (upd (upd (upd noHeap 0 X0) 1 X1) 2 D) 3 L) n A) 3 L2) 0 Y0) 1 Y1) n none) 3 L3 = upd (upd (upd (upd noHeap 0 Y0) 1 Y1) 2 D) 3 L3 := by
  funext i
  simp only [upd, noHeap]
  by_cases h3 : i = 3
  · simp [h3]
  · by_cases h4 : i = n
    · subst h4; simp [h3, show ¬ i = 0 by omega, show ¬ i = 1 by omega, show ¬ i = 2 by omega]
    · simp only [h3, h4, if_false]
      by_cases h1 : i = 1
      · simp [h1]
      · by_cases h0 : i = 0
        · simp [h0]
        · simp [h0, h1]
theorem heap_q0 {n : Nat} (hn : 4 ≤ n) (X0 X1 D L A L2 L3 : Option Blk) :
    upd (upd (upd (upd (upd (upd (upd (upd noHeap 0 X0) 1 X1) 2 D) 3 L) n A) 3 L2) n none) 3 L3 = upd (upd (upd (upd noHeap 0 X0) 1 X1) 2 D) 3 L3 := by
  funext i
  simp only [upd, noHeap]
  by_cases h3 : i = 3
  · simp [h3]
  · by_cases h4 : i = n
    · subst h4; simp [h3, show ¬ i = 0 by omega, show ¬ i = 1 by omega, show ¬ i = 2 by omega]
    · simp only [h3, h4, if_false]
theorem pf99_bad (c : Cf) (q : List Un) (d : Int) (hq : q.length ≤ 1000000) (h : qok c q = false) : PF Tryz.prog 99 [.agg c.cells, .view (unRows q), .int .i64 d] (fun r => r = .tuple [.int .i64 0, .int .i64 8]) := by
  have e1 : (if qok c q = true then (0 : Int) else 8) = 8 := if_neg (by rw [h]; simp)
  refine pf_of_w0 Tryz.func99 (c := _) rfl rfl (Nat.le_of_ble_eq_true rfl) (args_cli c q d) ?_
  rw [show Tryz.f99.ntmps = 27 from rfl]
  have tE := aI uU <| aI Cf.cells.eq_1 <| aI e1 <| tfQ30.down; repeat' first | (refine Red.h ?_) | ((with_reducible first | apply wz tkQ3 | apply wr_z tkQ3); exact zZ; decide) | ((with_reducible first | apply w_alloc tkQ3); exact zT; decide) | ((with_reducible first | apply w_store tkQ3); exact zV; exact zV; exact zS) | ((with_reducible first | apply wcall' | apply wr_call); exact zV; exact zVs; exact zAs; (focus (with_unfolding_all first | exact pf44 c q (by omega))); decide) | ((with_reducible first | apply w_ift'); exact zV; exact zU) | ((with_reducible apply w_ret); (repeat refine Red.h ?_); (with_reducible apply done_ret tkQ3); exact zT; exact zD; exact zX) | fail
  all_goals try clear tE
  rfl
theorem bkfn_pur (l : List Un) : Pur (.func (.func 153) [] [.vptr [.view (unRows l)]]) := by
  have hv := unRows_pur l
  rw [pur_func]
  refine ⟨fun _ h => (nomatch h), fun x hx => ?_⟩
  rcases List.mem_singleton.1 hx with rfl
  rw [pur_vptr]
  intro x hx
  rcases List.mem_singleton.1 hx with rfl
  exact hv
theorem pf99_ok (c : Cf) (q : List Un) (d : Int) (hq : q.length ≤ 1000000) (h : qok c q = true) : PF Tryz.prog 99 [.agg c.cells, .view (unRows q), .int .i64 d] (fun r => r = .tuple [.int .i64 (lastP d q), .int .i64 (if lastP d q = 0 then 6 else 0)]) := by
  have e1 : (if qok c q = true then (0 : Int) else 8) = 0 := if_pos h
  refine pf_of_wd0 Tryz.func99 (c := _) rfl rfl (Nat.le_of_ble_eq_true rfl) (args_cli c q d) ?_
  rw [show Tryz.f99.ntmps = 27 from rfl]
  have tE := aI uU <| aI Cf.cells.eq_1 <| aI e1 <| tfQ30.down; repeat' first | (refine Red.h ?_) | ((with_reducible first | apply wz tkQ3 | apply wr_z tkQ3); exact zZ; decide) | ((with_reducible first | apply w_alloc tkQ3); exact zT; decide) | ((with_reducible first | apply wcall' | apply wr_call); exact zV; exact zVs; exact zAs; (focus (with_unfolding_all first | exact pf44 c q (by omega) | exact pf136 q)); decide) | ((with_reducible first | apply w_iff'); exact zV; exact zU) | fail
  all_goals try clear tE
  refine w_cutS [(5, .vptr [.int .i64 d]), (6, .ptr 0 0), (7, .ptr 1 0), (18, .func (.func 153) [] [.vptr [.view (unRows q)]])] [some (.cells [.int .i64 0] 3), some (.cells [.int .i64 0] 34)] [] ?_ ?_
  · (have tu0 : Pur _ := bkfn_pur q; have tE := uU; exact kcanS [0, 1])
  simp only [St.ofS, List.length_cons, List.length_nil]
  refine w_rangeL (hs := [some (.cells [.int .i64 0] 3), some (.cells [.int .i64 0] 34)]) (g := 153) (first := []) (cap := [.vptr [.view (unRows q)]]) (R := fun r H n => r = .ret (.tuple []) ∧ ∃ lb : LoopB, (lb.state = .ready ∧ lb.pending = none ∧ lastP d q = 0 ∧ H = HQ 0 0 lb) ∨ (lb.state = .done ∧ lb.pending = some .ret ∧ lastP d q ≠ 0 ∧ H = HQ (lastP d q) 0 lb)) rfl ⟨_, Tryz.func153, rfl, rfl⟩ ?_ ?_
  · intro lb hlb
    have hst : lb.state = .ready := by rw [hlb]
    have hpe : lb.pending = none := by rw [hlb]
    have hH3 : hl ([some (.cells [.int .i64 0] 3), some (.cells [.int .i64 0] 34)] ++ [some .deferred, some (.loop lb)]) = HQ 0 0 lb := by
      funext i
      match i with
      | 0 | 1 | 2 | 3 => rfl
      | i + 4 => rfl
    rw [hH3]
    refine (ac153 q hq 3 4 _ (fun kk H n => 4 ≤ n ∧ H = HQ 0 0 lb ∧ ∀ (j : Nat) (v : Un), q[j]? = some v → kk ≤ j → v.p ≠ d) (fun i H n => H = HQ (lastP d q) 0 (lb.st .done (some .ret)) ∧ lastP d q = i + 1) ?_ ⟨Nat.le_refl _, rfl, ?_⟩).mono ?_
    · rintro i u H n hu ⟨hn, rfl, hno⟩
      have e0 : ((0 : Nat) == n) = false := by rw [beq_eq_false_iff_ne]; omega
      have e1 : ((1 : Nat) == n) = false := by rw [beq_eq_false_iff_ne]; omega
      have e2 : ((3 : Nat) == n) = false := by rw [beq_eq_false_iff_ne]; omega
      have f2 : (n == (3 : Nat)) = false := by rw [beq_eq_false_iff_ne]; omega
      have hil : i < q.length := by
        rcases Nat.lt_or_ge i q.length with h | h
        · exact h
        · rw [List.getElem?_eq_none h] at hu; cases hu
      have hw : IntKind.i64.wrap ((i : Int) + 1) = ((i + 1 : Nat) : Int) := by rw [wrap64 (by omega) (by omega)]; rfl
      refine yc_of_w (lb := lb) rfl hst (by rw [hlb]; rfl) (by rw [hlb]; intro t ht; have ht : t ∈ [19, 20] := ht; simp only [List.mem_cons, List.not_mem_nil, or_false] at ht; rcases ht with rfl | rfl; exact (show 19 < 27 by decide); exact (show 20 < 27 by decide)) ?_
      subst hlb
      show W _ _ _ _ _ _ ⟨upd (upd (sp _) 19 (.int .i64 i)) 20 (.agg u.cells), HQ 0 0 _, n, []⟩
      simp only [Un.cells]
      clear hst hpe
      have tE := aI uU <| aI ty3 <| aI ty4 <| aI ty34 <| aI ty58 <| aI ty27 <| aI HQ.eq_1 <| aI noHeap.eq_1 <| aI e0 <| aI e1 <| e2; repeat' first | (refine Red.h ?_) | ((with_reducible first | apply wz tkQ3 | apply wr_z tkQ3); exact zZ; decide) | ((with_reducible first | apply w_alloc tkQ3); exact zT; decide) | ((with_reducible first | apply w_store tkQ3); exact zV; exact zV; exact zS) | fail
      all_goals try clear tE
      refine ⟨rfl, rfl, by simp only [upd_b, e2, cond_false, Nat.reduceBEq, cond_true, beq_self_eq_true], ?_⟩
      have hlast : u.p = d → lastP d q = i + 1 := fun hp => lastP_at d q i u hu hp (fun j v hv hij => hno j v hv hij)
      refine w_postg ?_
      by_cases hup : u.p = d
      · have g1 : (u.p == d) = true := by simp [hup]
        have g2 : (u.p = d) = True := eq_true hup
        have tE := aI uU <| aI ty3 <| aI ty4 <| aI ty34 <| aI ty58 <| aI ty27 <| aI noHeap.eq_1 <| aI e0 <| aI e1 <| aI e2 <| aI f2 <| aI hw <| aI g1 <| g2; repeat' first | (refine Red.h ?_) | ((with_reducible first | apply wz tkQ3 | apply wr_z tkQ3); exact zZ; decide) | ((with_reducible first | apply w_store tkQ3); exact zV; exact zV; exact zS) | ((with_reducible first | apply w_ift'); exact zV; exact zU) | fail
        all_goals try clear tE
        refine w_ret ?_
        refine ⟨fun _ h => (nomatch h), _, gM (g_kill n), rfl, ?_, .inr ⟨rfl, ?_, ?_⟩⟩
        · simp only [upd_b, e2, f2, cond_false, Nat.reduceBEq, cond_true, beq_self_eq_true, show ((1 : Nat) == 3) = false from rfl, show ((0 : Nat) == 3) = false from rfl, show ((3 : Nat) == 1) = false from rfl, show ((3 : Nat) == 0) = false from rfl]
        · rw [hlast hup]; exact heap_q1 hn _ _ _ _ _ _ _ _ _
        · exact hlast hup
      · have g1 : (u.p == d) = false := by simp [hup]
        have g2 : (u.p = d) = False := eq_false hup
        have tE := aI uU <| aI ty3 <| aI ty4 <| aI ty34 <| aI ty58 <| aI ty27 <| aI noHeap.eq_1 <| aI e0 <| aI e1 <| aI e2 <| aI f2 <| aI hw <| aI g1 <| g2; repeat' first | (refine Red.h ?_) | ((with_reducible first | apply wz tkQ3 | apply wr_z tkQ3); exact zZ; decide) | ((with_reducible first | apply w_iff'); exact zV; exact zU) | fail
        all_goals try clear tE
        refine ⟨fun _ h => (nomatch h), _, gM (g_kill n), rfl, ?_, .inl ⟨rfl, by show 4 ≤ n + 1; omega, ?_, ?_⟩⟩
        · simp only [upd_b, e2, f2, cond_false, Nat.reduceBEq, cond_true, beq_self_eq_true]
        · exact heap_q0 hn _ _ _ _ _ _ _
        · intro j v hv hj
          rcases Nat.lt_or_ge i j with hij | hij
          · exact hno j v hv hij
          · obtain rfl : i = j := by omega
            rw [hu] at hv; cases hv; exact hup
    · intro j v hv hj
      rw [List.getElem?_eq_none hj] at hv; cases hv
    · rintro r H n ⟨rfl, ⟨_, rfl, hno⟩ | ⟨i, rfl, hl⟩⟩
      · exact ⟨rfl, lb, .inl ⟨hst, hpe, lastP_none d q (fun j v hv => hno j v hv (Nat.zero_le _)), rfl⟩⟩
      · exact ⟨rfl, lb.st .done (some .ret), .inr ⟨rfl, rfl, by omega, rfl⟩⟩
  · rintro r H n ⟨rfl, lb, ⟨hst, hpe, hz, rfl⟩ | ⟨hst, hpe, hz, rfl⟩⟩
    · refine ⟨_, lb, rfl, rfl, by rw [hst]; decide, ?_⟩
      rw [hpe]
      simp only [List.length_cons, List.length_nil, Nat.zero_add, Nat.reduceAdd]
      have tE := aI uU <| aI ty3 <| aI ty4 <| aI ty34 <| aI HQ.eq_1 <| noHeap.eq_1; repeat' first | (refine Red.h ?_) | ((with_reducible first | apply w_store tkQ3); exact zV; exact zV; exact zS) | fail
      all_goals try clear tE
      refine w_ret (doneD_ret (xs := [.int .i64 0, .int .i64 6]) tkQ3 Tryz.results99 ⟨by simp only [sp_cons, sp_nil, upd_b, Nat.reduceBEq, cond_true, cond_false, args0_zero, args0_succ, args0_nil], trivial⟩ ?_ (by simp only [pur_bool, pur_int, pur_str, pur_empty, pur_nilptr, pur_nilFunc, pur_nilIface, pur_any, pur_agg, pur_tuple, pur_vptr, pur_view, pur_iface, pur_func, tup, List.mem_cons, forall_eq_or_imp, List.not_mem_nil, false_implies, implies_true, and_self, forall_const, forall_eq]) ?_)
      · simp only [resA, resOne, killAll, pv, pvx, pvIndexAddr, pvIndex, pvOwn, evp, List.replicate_succ, List.replicate_zero, List.flatten_cons, List.flatten_nil, List.append_nil, List.cons_append, List.nil_append, buildA, placesA, fillA, wr, known, cellsA, List.set_cons_zero, List.set_cons_succ, and_self, Nat.reduceSub, List.length_set, and_true, List.all_cons, List.all_nil, scalA, Bool.and_true, Bool.and_self, evo, evs, cval, Option.bind_some, Option.map_some, binv, intop, pvPick, pvUn, pvConv, pvExtract, fieldOf, pvField, pvFieldAddr, pvLoad, pvNil, loadA, partA, isAggD, pvIface, isIface, pvLen, lenA, pvCall, noYieldB, List.drop_succ_cons, List.drop_zero, List.take_succ_cons, List.take_zero, List.getElem?_cons_succ, List.getElem?_cons_zero, List.getElem?_toArray, List.length_cons, List.length_nil, Bool.false_eq_true, Nat.reduceAdd, Nat.reduceLeDiff, Nat.zero_add, Nat.reduceEqDiff, Nat.one_ne_zero, Int.reduceEq, Int.reduceLT, Int.reduceLE, Int.reduceToNat, Nat.reduceMul, Nat.reduceLT, hl_zero, hl_succ, hl_nil, sp_cons, sp_nil, upd_b, Nat.reduceBEq, cond_true, cond_false, args0_zero, args0_succ, args0_nil, ↓reduceIte, ty3, ty34]
      · simp [tup, hz]
    · refine ⟨_, lb, rfl, rfl, by rw [hst]; decide, ?_⟩
      rw [hpe]
      simp only [List.length_cons, List.length_nil, Nat.zero_add, Nat.reduceAdd]
      refine w_ret ?_
      show DonePD Tryz.prog Tryz.f99 _ .ret _
      refine doneD_ret (xs := [.int .i64 (lastP d q), .int .i64 0]) tkQ3 Tryz.results99 ⟨by simp only [HQ.eq_1, sp_cons, sp_nil, upd_b, Nat.reduceBEq, cond_true, cond_false, args0_zero, args0_succ, args0_nil], trivial⟩ ?_ (by simp only [pur_bool, pur_int, pur_str, pur_empty, pur_nilptr, pur_nilFunc, pur_nilIface, pur_any, pur_agg, pur_tuple, pur_vptr, pur_view, pur_iface, pur_func, tup, List.mem_cons, forall_eq_or_imp, List.not_mem_nil, false_implies, implies_true, and_self, forall_const, forall_eq]) ?_
      · simp only [HQ.eq_1, resA, resOne, killAll, pv, pvx, pvIndexAddr, pvIndex, pvOwn, evp, List.replicate_succ, List.replicate_zero, List.flatten_cons, List.flatten_nil, List.append_nil, List.cons_append, List.nil_append, buildA, placesA, fillA, wr, known, cellsA, List.set_cons_zero, List.set_cons_succ, and_self, Nat.reduceSub, List.length_set, and_true, List.all_cons, List.all_nil, scalA, Bool.and_true, Bool.and_self, evo, evs, cval, Option.bind_some, Option.map_some, binv, intop, pvPick, pvUn, pvConv, pvExtract, fieldOf, pvField, pvFieldAddr, pvLoad, pvNil, loadA, partA, isAggD, pvIface, isIface, pvLen, lenA, pvCall, noYieldB, List.drop_succ_cons, List.drop_zero, List.take_succ_cons, List.take_zero, List.getElem?_cons_succ, List.getElem?_cons_zero, List.getElem?_toArray, List.length_cons, List.length_nil, Bool.false_eq_true, Nat.reduceAdd, Nat.reduceLeDiff, Nat.zero_add, Nat.reduceEqDiff, Nat.one_ne_zero, Int.reduceEq, Int.reduceLT, Int.reduceLE, Int.reduceToNat, Nat.reduceMul, Nat.reduceLT, hl_zero, hl_succ, hl_nil, sp_cons, sp_nil, upd_b, Nat.reduceBEq, cond_true, cond_false, args0_zero, args0_succ, args0_nil, ↓reduceIte, ty3, ty34]
      · simp [tup, hz]
theorem pf99 (c : Cf) (q : List Un) (d : Int) (hq : q.length ≤ 1000000) : PF Tryz.prog 99 [.agg c.cells, .view (unRows q), .int .i64 d] (fun r => r = .tuple [.int .i64 (ahI c q d), .int .i64 (ahE c q d)]) := by
  cases h : qok c q with
  | false => simpa [ahI, ahE, h] using pf99_bad c q d hq h
  | true => simpa [ahI, ahE, h] using pf99_ok c q d hq h
end Go.Proofs.YtlmighkbeacjnaaGreatDoor


