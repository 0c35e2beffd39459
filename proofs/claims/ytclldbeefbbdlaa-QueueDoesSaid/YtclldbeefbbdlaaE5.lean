/- queue.Put and the reference's. -/
import Derived.Test.YtclldbeefbbdlaaE4
open Go Go.Lg
set_option linter.unusedSimpArgs false
set_option linter.unusedVariables false
set_option maxHeartbeats 4000000
set_option maxRecDepth 20000
namespace Go.Proofs.Ytclldbeefbbdlaa
theorem cf_q {c : Cf} (h : c.good = true) : 1 ≤ c.q ∧ c.q ≤ 16 := by
  have hok : c.ok = true := by simp [Cf.good] at h; exact h.1
  simp [Cf.ok, Cf.spans, inB] at hok; omega
theorem args_cll (c : Cf) (q m : List Un) : ∀ x, x ∈ [AV.agg c.cells, AV.view (unRows q), AV.view (unRows m)] → Pur x := by
  intro x hx
  simp only [List.mem_cons, List.not_mem_nil, or_false] at hx
  rcases hx with rfl | rfl | rfl
  · exact .agg (cells_pur c)
  · exact unRows_pur q
  · exact unRows_pur m
/-- The line's put, where there is room. -/
theorem ac63 (H : Heap) (n L id : Nat) (q m : List Un) (most : Int) (hL : H L = some (.cells [ownR id 4 (unRows q)] 106)) (hid : 0 < q.length → H id = some (.cells (unRows q).flatten 58)) (hne : 0 < q.length → L ≠ id) (hLn : L < n) (hq : q.length ≤ 1000) (hm0 : q.length = 0 → 0 < m.length) (hm : m.length ≤ 1000) (hmost : 0 ≤ most ∧ most ≤ 1000)
    (hroom : (q.length : Int) + m.length ≤ most) :
    AC Try.prog 63 [.ptr L 0, .int .i64 most, .view (unRows m)] H n (fun r h' n' => r = .ret (.bool true) ∧ h' = upd (upd (if 0 < q.length then upd H id none else H) n (some (.cells (unRows (q ++ m)).flatten 58))) L (some (.cells [.slice n 0 (q.length + m.length) none 4] 106)) ∧ n' = n + 1) := by
  refine ac_of_w Try.func63 (c := _) rfl (Nat.le_of_ble_eq_true rfl) ?_
  rw [show Try.f63.ntmps = 26 from rfl]
  have b1 : (L == n) = false := by rw [beq_eq_false_iff_ne]; omega
  have hrm := unRows_row m
  have hml := unRows_len m
  have hsc : (unRows m).flatten.all scalA = true := by
    rw [List.all_eq_true]
    intro x hx
    obtain ⟨r, h1, h2⟩ := List.mem_flatten.1 hx
    simp only [unRows, List.mem_map] at h1
    obtain ⟨u, _, rfl⟩ := h1
    simp only [Un.cells, List.mem_cons, List.not_mem_nil, or_false] at h2
    rcases h2 with rfl | rfl | rfl | rfl <;> rfl
  rcases Nat.eq_zero_or_pos q.length with hz | hz
  · have h0m : 0 < (unRows m).length := by rw [hml]; exact hm0 hz
    obtain rfl := List.eq_nil_of_length_eq_zero hz
    rw [show ownR id 4 (unRows []) = .empty from rfl] at hL
    have wr : IntKind.i64.wrap (most - ((0 : Nat) : Int)) = most := by rw [wrap64 (by omega) (by omega)]; omega
    have wr0 : IntKind.i64.wrap (most - 0) = most := by rw [wrap64 (by omega) (by omega)]; omega
    have hgt : ¬ ((m.length : Int) > most) := by simp at hroom; omega
    have tE := And.intro (@upd_upd AV) <| And.intro (@upd_upd (Option Blk)) <| And.intro hL <| And.intro b1 <| And.intro hml <| And.intro wr <| And.intro wr0 <| And.intro hgt <| And.intro ty3 <| And.intro ty5 <| And.intro ty55 <| And.intro ty56 <| And.intro ty58 <| And.intro ty106 <| Try.results63; repeat' first | ((with_reducible first | apply w_seq | apply w_region | apply wl_nil | apply wr_nil | apply wr_nilA | apply wr_nilE | apply go_normal | apply go_ret | apply go_exit | apply blk_normal | apply blk_ret | apply blk_here | apply w_block | apply w_skip | apply w_exit | apply w_label)) | ((with_reducible first | apply wz (tok Try.prog) | apply wr_z (tok Try.prog)); exact zZ; decide) | ((with_reducible first | apply w_store (tok Try.prog)); exact zV; exact zV; exact zS) | ((with_reducible first | apply w_ap | apply wr_ap); (focus (first | (intro _ ho _ hr _; (with_reducible apply ap_new (tok Try.prog) ho (hr := hr)); exact zT; exact zU; exact zT; exact zT; exact zU; exact zA; exact zV; exact zK; exact zM; exact zK; exact zK; decide) | (intro _ ho _ hr _; (with_reducible apply ap_own (tok Try.prog) ho (hr := hr)); exact zT; exact zU; exact zT; exact zT; exact zU; exact zV; exact zV; exact zH; exact zKo; exact zM; (focus (first | rfl | assumption)); exact zKo; exact zKo; decide))); decide) | ((with_reducible first | apply w_iff'); exact zV; exact zU) | ((with_reducible apply w_ret); (repeat (with_reducible first | apply go_ret | apply blk_ret)); (with_reducible first | apply donef_ret (tok Try.prog) | apply doneA_ret (tok Try.prog)); exact zT; exact zD) | fail
    all_goals try clear tE
    refine ⟨rfl, ?_, rfl⟩
    simp
    rfl
  · rw [ownR_pos id 4 (show 0 < (unRows q).length by rw [unRows_len]; exact hz), unRows_len] at hL
    have hid := hid hz
    have b2 : (L == id) = false := by rw [beq_eq_false_iff_ne]; exact hne hz
    have wr : IntKind.i64.wrap (most - (q.length : Int)) = most - q.length := wrap64 (by omega) (by omega)
    have hgt : ¬ ((m.length : Int) > most - q.length) := by omega
    have hfl : (unRows q).flatten.length = q.length * 4 := unFlat_len q
    have tE := And.intro (@upd_upd AV) <| And.intro (@upd_upd (Option Blk)) <| And.intro hL <| And.intro hid <| And.intro b1 <| And.intro b2 <| And.intro hml <| And.intro wr <| And.intro hgt <| And.intro hfl <| And.intro ty3 <| And.intro ty5 <| And.intro ty55 <| And.intro ty56 <| And.intro ty58 <| And.intro ty106 <| Try.results63; repeat' first | ((with_reducible first | apply w_seq | apply w_region | apply wl_nil | apply wr_nil | apply wr_nilA | apply wr_nilE | apply go_normal | apply go_ret | apply go_exit | apply blk_normal | apply blk_ret | apply blk_here | apply w_block | apply w_skip | apply w_exit | apply w_label)) | ((with_reducible first | apply wz (tok Try.prog) | apply wr_z (tok Try.prog)); exact zZ; decide) | ((with_reducible first | apply w_store (tok Try.prog)); exact zV; exact zV; exact zS) | ((with_reducible first | apply w_ap | apply wr_ap); (focus (first | (intro _ ho _ hr _; (with_reducible apply ap_new (tok Try.prog) ho (hr := hr)); exact zT; exact zU; exact zT; exact zT; exact zU; exact zA; exact zV; exact zK; exact zM; exact zK; exact zK; decide) | (intro _ ho _ hr _; (with_reducible apply ap_own (tok Try.prog) ho (hr := hr)); exact zT; exact zU; exact zT; exact zT; exact zU; exact zV; exact zV; exact zH; exact zKo; exact zM; (focus (first | rfl | assumption)); exact zKo; exact zKo; decide))); decide) | ((with_reducible first | apply w_iff'); exact zV; exact zU) | ((with_reducible apply w_ret); (repeat (with_reducible first | apply go_ret | apply blk_ret)); (with_reducible first | apply donef_ret (tok Try.prog) | apply doneA_ret (tok Try.prog)); exact zT; exact zD) | fail
    all_goals try clear tE
    refine ⟨rfl, ?_, rfl⟩
    rw [if_pos hz]
    simp [unRows]
    rfl
/-- The line's put, of nothing into nothing. -/
theorem ac63e (H : Heap) (n L : Nat) (most : Int) (hL : H L = some (.cells [.empty] 106)) (hLn : L < n) (hmost : 0 ≤ most ∧ most ≤ 1000) :
    AC Try.prog 63 [.ptr L 0, .int .i64 most, .empty] H n (fun r h' n' => r = .ret (.bool true) ∧ h' = upd H L (some (.cells [.empty] 106)) ∧ n' = n) := by
  refine ac_of_w Try.func63 (c := _) rfl (Nat.le_of_ble_eq_true rfl) ?_
  rw [show Try.f63.ntmps = 26 from rfl]
  have wr0 : IntKind.i64.wrap (most - 0) = most := by rw [wrap64 (by omega) (by omega)]; omega
  have hgt : ¬ ((0 : Int) > most) := by omega
  have tE := And.intro (@upd_upd AV) <| And.intro (@upd_upd (Option Blk)) <| And.intro hL <| And.intro wr0 <| And.intro hgt <| And.intro ty3 <| And.intro ty5 <| And.intro ty55 <| And.intro ty56 <| And.intro ty58 <| And.intro ty106 <| Try.results63; repeat' first | ((with_reducible first | apply w_seq | apply w_region | apply wl_nil | apply wr_nil | apply wr_nilA | apply wr_nilE | apply go_normal | apply go_ret | apply go_exit | apply blk_normal | apply blk_ret | apply blk_here | apply w_block | apply w_skip | apply w_exit | apply w_label)) | ((with_reducible first | apply wz (tok Try.prog) | apply wr_z (tok Try.prog)); exact zZ; decide) | ((with_reducible first | apply w_store (tok Try.prog)); exact zV; exact zV; exact zS) | ((with_reducible first | apply wp | apply wr_p); (focus (first | ((with_reducible first | apply p_slv (tok Try.prog)); exact zT; exact zU; exact zT; exact zV; exact zN; exact zN; (focus (first | exact zU | exact zB)); (focus (first | exact zU | exact zB)); (focus (first | exact zU | assumption))) | ((with_reducible first | apply p_slo (tok Try.prog)); exact zT; exact zU; exact zT; exact zV; exact zN; exact zN; (focus (first | exact zU | exact zB)); (focus (first | exact zU | exact zB)); (focus (first | exact zU | assumption))) | ((with_reducible first | apply p_nil (tok Try.prog) | apply p_nnil (tok Try.prog)); exact zT; exact zV; exact zU) | ((with_reducible first | apply p_bs0 (tok Try.prog)); exact zT; exact zU; exact zT) | ((with_reducible first | apply p_ap0 (tok Try.prog)); exact zT; exact zU; exact zT; exact zT; exact zU; exact zA; exact zV; (focus (first | exact Or.inl rfl | exact Or.inr rfl))) | ((with_reducible first | apply p_bytes (tok Try.prog)); exact zT; exact zU; exact zT; exact zU; exact zT; exact zU; exact zV))); decide) | ((with_reducible first | apply w_iff'); exact zV; exact zU) | ((with_reducible apply w_ret); (repeat (with_reducible first | apply go_ret | apply blk_ret)); (with_reducible first | apply donef_ret (tok Try.prog) | apply doneA_ret (tok Try.prog)); exact zT; exact zD) | fail
  all_goals try clear tE
  exact ⟨rfl, rfl, rfl⟩
/-- The line's put, where there is no room. -/
theorem ac63f (H : Heap) (n L id : Nat) (q m : List Un) (most : Int) (hL : H L = some (.cells [ownR id 4 (unRows q)] 106)) (hLn : L < n) (hq : q.length ≤ 1000) (hmost : 0 ≤ most ∧ most ≤ 1000)
    (hroom : ¬ (q.length : Int) + m.length ≤ most) :
    AC Try.prog 63 [.ptr L 0, .int .i64 most, .view (unRows m)] H n (fun r h' n' => r = .ret (.bool false) ∧ h' = H ∧ n' = n) := by
  refine ac_of_w Try.func63 (c := _) rfl (Nat.le_of_ble_eq_true rfl) ?_
  rw [show Try.f63.ntmps = 26 from rfl]
  have hml := unRows_len m
  rcases Nat.eq_zero_or_pos q.length with hz | hz
  · obtain rfl := List.eq_nil_of_length_eq_zero hz
    rw [show ownR id 4 (unRows []) = .empty from rfl] at hL
    have wr0 : IntKind.i64.wrap (most - 0) = most := by rw [wrap64 (by omega) (by omega)]; omega
    have hgt : ((m.length : Int) > most) := by simp at hroom; omega
    have tE := And.intro (@upd_upd AV) <| And.intro (@upd_upd (Option Blk)) <| And.intro hL <| And.intro hml <| And.intro wr0 <| And.intro hgt <| And.intro ty3 <| And.intro ty5 <| And.intro ty55 <| And.intro ty56 <| And.intro ty58 <| And.intro ty106 <| Try.results63; repeat' first | ((with_reducible first | apply w_seq | apply w_region | apply wl_nil | apply wr_nil | apply wr_nilA | apply wr_nilE | apply go_normal | apply go_ret | apply go_exit | apply blk_normal | apply blk_ret | apply blk_here | apply w_block | apply w_skip | apply w_exit | apply w_label)) | ((with_reducible first | apply wz (tok Try.prog) | apply wr_z (tok Try.prog)); exact zZ; decide) | ((with_reducible first | apply w_ift'); exact zV; exact zU) | ((with_reducible apply w_ret); (repeat (with_reducible first | apply go_ret | apply blk_ret)); (with_reducible first | apply donef_ret (tok Try.prog) | apply doneA_ret (tok Try.prog)); exact zT; exact zD) | fail
    all_goals try clear tE
    exact ⟨rfl, rfl, rfl⟩
  · rw [ownR_pos id 4 (show 0 < (unRows q).length by rw [unRows_len]; exact hz), unRows_len] at hL
    have wr : IntKind.i64.wrap (most - (q.length : Int)) = most - q.length := wrap64 (by omega) (by omega)
    have hgt : ((m.length : Int) > most - q.length) := by omega
    have tE := And.intro (@upd_upd AV) <| And.intro (@upd_upd (Option Blk)) <| And.intro hL <| And.intro hml <| And.intro wr <| And.intro hgt <| And.intro ty3 <| And.intro ty5 <| And.intro ty55 <| And.intro ty56 <| And.intro ty58 <| And.intro ty106 <| Try.results63; repeat' first | ((with_reducible first | apply w_seq | apply w_region | apply wl_nil | apply wr_nil | apply wr_nilA | apply wr_nilE | apply go_normal | apply go_ret | apply go_exit | apply blk_normal | apply blk_ret | apply blk_here | apply w_block | apply w_skip | apply w_exit | apply w_label)) | ((with_reducible first | apply wz (tok Try.prog) | apply wr_z (tok Try.prog)); exact zZ; decide) | ((with_reducible first | apply w_ift'); exact zV; exact zU) | ((with_reducible apply w_ret); (repeat (with_reducible first | apply go_ret | apply blk_ret)); (with_reducible first | apply donef_ret (tok Try.prog) | apply doneA_ret (tok Try.prog)); exact zT; exact zD) | fail
    all_goals try clear tE
    exact ⟨rfl, rfl, rfl⟩
theorem pf71_nilE : PF Try.prog 71 [.view (unRows [])] (fun r => r = .empty) := by
  refine pf_of_w0 Try.func71 (c := _) rfl rfl (Nat.le_of_ble_eq_true rfl) (fun x hx => by rcases List.mem_singleton.1 hx with rfl; exact unRows_pur []) ?_
  rw [show Try.f71.ntmps = 8 from rfl]
  have tE := And.intro (@upd_upd AV) <| And.intro (@upd_upd (Option Blk)) <| And.intro ty3 <| And.intro ty5 <| And.intro ty55 <| And.intro ty56 <| And.intro ty58 <| Try.results71; repeat' first | ((with_reducible first | apply w_seq | apply w_region | apply wl_nil | apply wr_nil | apply wr_nilA | apply wr_nilE | apply go_normal | apply go_ret | apply go_exit | apply blk_normal | apply blk_ret | apply blk_here | apply w_block | apply w_skip | apply w_exit | apply w_label)) | ((with_reducible first | apply wz (tok Try.prog) | apply wr_z (tok Try.prog)); exact zZ; decide) | ((with_reducible first | apply wp | apply wr_p); (focus (first | ((with_reducible first | apply p_slv (tok Try.prog)); exact zT; exact zU; exact zT; exact zV; exact zN; exact zN; (focus (first | exact zU | exact zB)); (focus (first | exact zU | exact zB)); (focus (first | exact zU | assumption))) | ((with_reducible first | apply p_slo (tok Try.prog)); exact zT; exact zU; exact zT; exact zV; exact zN; exact zN; (focus (first | exact zU | exact zB)); (focus (first | exact zU | exact zB)); (focus (first | exact zU | assumption))) | ((with_reducible first | apply p_nil (tok Try.prog) | apply p_nnil (tok Try.prog)); exact zT; exact zV; exact zU) | ((with_reducible first | apply p_bs0 (tok Try.prog)); exact zT; exact zU; exact zT) | ((with_reducible first | apply p_ap0 (tok Try.prog)); exact zT; exact zU; exact zT; exact zT; exact zU; exact zA; exact zV; (focus (first | exact Or.inl rfl | exact Or.inr rfl))) | ((with_reducible first | apply p_bytes (tok Try.prog)); exact zT; exact zU; exact zT; exact zU; exact zT; exact zU; exact zV))); decide) | ((with_reducible first | apply wl_nilx (tok Try.prog)); (focus (first | exact Or.inl rfl | exact Or.inr rfl)); exact zT; exact zU; exact zV; (focus (first | exact Or.inl rfl | exact Or.inr ⟨_, rfl⟩)); decide; intro b; cases b) | ((with_reducible first | apply w_ift'); exact zV; exact zU) | ((with_reducible first | apply w_iff'); exact zV; exact zU) | ((with_reducible apply w_ret); (repeat (with_reducible first | apply go_ret | apply blk_ret)); (with_reducible apply done_ret (tok Try.prog)); exact zT; exact zD; exact zX) | fail
  all_goals try clear tE
  · rfl
  · rfl
theorem pf43_nilE : PF Try.prog 43 [.view (unRows [])] (fun r => r = .empty) := by
  refine pf_of_w0 Try.func43 (c := _) rfl rfl (Nat.le_of_ble_eq_true rfl) (fun x hx => by rcases List.mem_singleton.1 hx with rfl; exact unRows_pur []) ?_
  rw [show Try.f43.ntmps = 24 from rfl]
  have tE := And.intro (@upd_upd AV) <| And.intro (@upd_upd (Option Blk)) <| And.intro ty3 <| And.intro ty5 <| And.intro ty55 <| And.intro ty56 <| And.intro ty58 <| Try.results43; repeat' first | ((with_reducible first | apply w_seq | apply w_region | apply wl_nil | apply wr_nil | apply wr_nilA | apply wr_nilE | apply go_normal | apply go_ret | apply go_exit | apply blk_normal | apply blk_ret | apply blk_here | apply w_block | apply w_skip | apply w_exit | apply w_label)) | ((with_reducible first | apply wz (tok Try.prog) | apply wr_z (tok Try.prog)); exact zZ; decide) | ((with_reducible first | apply wcall' | apply wr_call); exact zV; exact zVs; exact zAs; (focus (with_unfolding_all first | exact pf71_nilE)); decide) | fail
  all_goals try clear tE
  refine w_once ?_
  have tE := And.intro (@upd_upd AV) <| And.intro (@upd_upd (Option Blk)) <| And.intro ty3 <| And.intro ty5 <| And.intro ty55 <| And.intro ty56 <| And.intro ty58 <| Try.results43; repeat' first | ((with_reducible first | apply w_seq | apply w_region | apply wl_nil | apply wr_nil | apply wr_nilA | apply wr_nilE | apply go_normal | apply go_ret | apply go_exit | apply blk_normal | apply blk_ret | apply blk_here | apply w_block | apply w_skip | apply w_exit | apply w_label)) | ((with_reducible first | apply wz (tok Try.prog) | apply wr_z (tok Try.prog)); exact zZ; decide) | ((with_reducible first | apply w_iff'); exact zV; exact zU) | ((with_reducible apply w_ret); (repeat (with_reducible first | apply go_ret | apply blk_ret)); (with_reducible apply done_ret (tok Try.prog)); exact zT; exact zD; exact zX) | fail
  all_goals try clear tE
  rfl
def put1 (c : Cf) (q m : List Un) : Bool := qok c q && m.all (mayU c)
def putU (c : Cf) (q m : List Un) : List Un := if put1 c q m = true ∧ (q.length : Int) + m.length ≤ c.q then q ++ m else []
def putE (c : Cf) (q m : List Un) : Int := if put1 c q m = true then (if (q.length : Int) + m.length ≤ c.q then 0 else 230) else 8
theorem ue_pur (l : List Un) (e : Int) : Pur (.tuple [.view (unRows l), .int .i64 e]) := .tuple (fun x hx => by
  simp only [List.mem_cons, List.not_mem_nil, or_false] at hx
  rcases hx with rfl | rfl
  · exact unRows_pur _
  · exact .int _ _)
theorem ue_weak {f : FuncId} {args : List AV} {e : Int} (h : PF Try.prog f args (fun r => r = .tuple [.empty, .int .i64 e])) : PF Try.prog f args (fun r => r = .tuple [.view (unRows []), .int .i64 e]) :=
  h.weak (.tuple (.cons .empty (.cons (.refl _) .nil))) (ue_pur [] e)
theorem pf29_bad (c : Cf) (q m : List Un) (hq : q.length ≤ 1000) (hm : m.length ≤ 1000) (h : put1 c q m = false) : PF Try.prog 29 [.agg c.cells, .view (unRows q), .view (unRows m)] (fun r => r = .tuple [.empty, .int .i64 8]) := by
  refine pf_of_w0 Try.func29 (c := _) rfl rfl (Nat.le_of_ble_eq_true rfl) (args_cll c q m) ?_
  rw [show Try.f29.ntmps = 33 from rfl]
  cases hk : qok c q with
  | false =>
    have e1 : (if qok c q = true then (0 : Int) else 8) = 8 := if_neg (by rw [hk]; simp)
    have tE := And.intro (@upd_upd AV) <| And.intro (@upd_upd (Option Blk)) <| And.intro Cf.cells.eq_1 <| And.intro e1 <| And.intro ty3 <| And.intro ty4 <| And.intro ty5 <| And.intro ty23 <| And.intro ty25 <| And.intro ty55 <| And.intro ty56 <| And.intro ty58 <| And.intro ty106 <| Try.results29; repeat' first | ((with_reducible first | apply w_seq | apply w_region | apply wl_nil | apply wr_nil | apply wr_nilA | apply wr_nilE | apply go_normal | apply go_ret | apply go_exit | apply blk_normal | apply blk_ret | apply blk_here | apply w_block | apply w_skip | apply w_exit | apply w_label)) | ((with_reducible first | apply wz (tok Try.prog) | apply wr_z (tok Try.prog)); exact zZ; decide) | ((with_reducible first | apply wskip' | apply wr_skip); exact zU; exact zL; exact zU; decide) | ((with_reducible first | apply wcall' | apply wr_call); exact zV; exact zVs; exact zAs; (focus (with_unfolding_all first | exact pf33 c q (by omega) | exact pf62 c m (by omega))); decide) | ((with_reducible first | apply w_ift'); exact zV; exact zU) | ((with_reducible apply w_ret); (repeat (with_reducible first | apply go_ret | apply blk_ret)); (with_reducible apply done_ret (tok Try.prog)); exact zT; exact zD; exact zX) | fail
    all_goals try clear tE
    rfl
  | true =>
    have e1 : (if qok c q = true then (0 : Int) else 8) = 0 := if_pos hk
    have ha : m.all (mayU c) = false := by simp only [put1, hk, Bool.true_and] at h; exact h
    have ho := odd_eq c m
    rw [ha] at ho
    have tE := And.intro (@upd_upd AV) <| And.intro (@upd_upd (Option Blk)) <| And.intro Cf.cells.eq_1 <| And.intro e1 <| And.intro ho <| And.intro ty3 <| And.intro ty4 <| And.intro ty5 <| And.intro ty23 <| And.intro ty25 <| And.intro ty55 <| And.intro ty56 <| And.intro ty58 <| And.intro ty106 <| Try.results29; repeat' first | ((with_reducible first | apply w_seq | apply w_region | apply wl_nil | apply wr_nil | apply wr_nilA | apply wr_nilE | apply go_normal | apply go_ret | apply go_exit | apply blk_normal | apply blk_ret | apply blk_here | apply w_block | apply w_skip | apply w_exit | apply w_label)) | ((with_reducible first | apply wz (tok Try.prog) | apply wr_z (tok Try.prog)); exact zZ; decide) | ((with_reducible first | apply wzg (tok Try.prog) | apply wr_zg (tok Try.prog)); exact zU; exact zL; exact zU; exact zZ; decide) | ((with_reducible first | apply wcall' | apply wr_call); exact zV; exact zVs; exact zAs; (focus (with_unfolding_all first | exact pf33 c q (by omega) | exact pf62 c m (by omega))); decide) | ((with_reducible first | apply wcallg' | apply wr_callg); exact zU; exact zL; exact zU; exact zV; exact zVs; exact zAs; (focus (with_unfolding_all first | exact pf33 c q (by omega) | exact pf62 c m (by omega))); decide) | ((with_reducible first | apply w_ift'); exact zV; exact zU) | ((with_reducible apply w_ret); (repeat (with_reducible first | apply go_ret | apply blk_ret)); (with_reducible apply done_ret (tok Try.prog)); exact zT; exact zD; exact zX) | fail
    all_goals try clear tE
    rfl
theorem pf29_full (c : Cf) (q m : List Un) (hq : q.length ≤ 1000) (hm : m.length ≤ 1000) (hdq : ∀ u, u ∈ q → u.d.length ≤ 1000000) (hdm : ∀ u, u ∈ m → u.d.length ≤ 1000000) (h : put1 c q m = true) (hroom : ¬ (q.length : Int) + m.length ≤ c.q) : PF Try.prog 29 [.agg c.cells, .view (unRows q), .view (unRows m)] (fun r => r = .tuple [.empty, .int .i64 230]) := by
  have hk : qok c q = true := by simp only [put1, Bool.and_eq_true] at h; exact h.1
  have ha : m.all (mayU c) = true := by simp only [put1, Bool.and_eq_true] at h; exact h.2
  have hgood : c.good = true := by simp only [qok, Bool.and_eq_true] at hk; exact hk.1.1
  have hcq := cf_q hgood
  have e1 : (if qok c q = true then (0 : Int) else 8) = 0 := if_pos hk
  have ho := odd_eq c m
  rw [ha] at ho
  refine pf_of_w0 Try.func29 (c := _) rfl rfl (Nat.le_of_ble_eq_true rfl) (args_cll c q m) ?_
  rw [show Try.f29.ntmps = 33 from rfl]
  rcases Nat.eq_zero_or_pos q.length with hz | hz
  · obtain rfl := List.eq_nil_of_length_eq_zero hz
    have s63 := fun H n hL hLn => ac63f H n 0 0 [] m c.q hL hLn (by simp) (by omega) hroom
    have s43 := pf43 m (by omega) hdm
    have tE := And.intro (@upd_upd AV) <| And.intro (@upd_upd (Option Blk)) <| And.intro Cf.cells.eq_1 <| And.intro e1 <| And.intro ho <| And.intro ty3 <| And.intro ty4 <| And.intro ty5 <| And.intro ty23 <| And.intro ty25 <| And.intro ty55 <| And.intro ty56 <| And.intro ty58 <| And.intro ty106 <| Try.results29; repeat' first | ((with_reducible first | apply w_seq | apply w_region | apply wl_nil | apply wr_nil | apply wr_nilA | apply wr_nilE | apply go_normal | apply go_ret | apply go_exit | apply blk_normal | apply blk_ret | apply blk_here | apply w_block | apply w_skip | apply w_exit | apply w_label)) | ((with_reducible apply l_box (d := 21)); exact zV; exact zU; decide) | ((with_reducible apply w_live (lvAt [[0, 1, 2], [1, 2, 3], [], [1, 2, 3], [2, 3, 8], [], [8]])); (focus (simp only [lvAt_zero, lvAt_succ]; rfl)); exact zLv) | ((with_reducible first | apply wz (tok Try.prog) | apply wr_z (tok Try.prog)); exact zZ; decide) | ((with_reducible first | apply wzg (tok Try.prog) | apply wr_zg (tok Try.prog)); exact zU; exact zL; exact zU; exact zZ; decide) | ((with_reducible first | apply wcall' | apply wr_call); exact zV; exact zVs; exact zAs; (focus (with_unfolding_all first | exact pf33 c [] (by simp) | exact pf62 c m (by omega) | exact pf43_nilE | exact s43)); decide) | ((with_reducible first | apply wcallg' | apply wr_callg); exact zU; exact zL; exact zU; exact zV; exact zVs; exact zAs; (focus (with_unfolding_all first | exact pf33 c [] (by simp) | exact pf62 c m (by omega) | exact pf43_nilE | exact s43)); decide) | ((with_reducible first | apply m_calle); exact zU; exact zV; exact zVs; exact zAs; (focus (first | exact ⟨_, Try.func63, rfl, rfl⟩)); (focus (with_unfolding_all first | exact s63 _ _ rfl (by decide))); decide) | ((with_reducible first | apply w_ift'); exact zV; exact zU) | ((with_reducible first | apply w_iff'); exact zV; exact zU) | ((with_reducible first | apply fm_nil | apply fm_cons)) | ((with_reducible apply m_next); exact zU) | ((with_reducible apply m_nil0); exact zU) | ((with_reducible first | apply m_v (tok Try.prog)); exact zU; exact zZ; decide) | ((with_reducible first | apply m_call); exact zU; exact zV; exact zVs; exact zAs; (focus (with_unfolding_all first | exact pf33 c [] (by simp) | exact pf62 c m (by omega) | exact pf43_nilE | exact s43)); decide) | ((with_reducible apply w_drawN (id := 4) [5] [([5], [0, 1, 2, 3, 4, 5, 6])] mixed); (focus (decide +kernel))) | ((with_reducible apply w_ret); (repeat (with_reducible first | apply go_ret | apply blk_ret)); (with_reducible apply done_ret (tok Try.prog)); exact zT; exact zD; exact zX) | fail
    all_goals try clear tE
    rfl
  · have s63 := fun (H : Heap) (n : Nat) (hL : H 1 = some (.cells [.slice 0 0 q.length none 4] 106)) hLn => ac63f H n 1 0 q m c.q (by rw [ownR_pos 0 4 (show 0 < (unRows q).length by rw [unRows_len]; exact hz), unRows_len]; exact hL) hLn (by omega) (by omega) hroom
    have s43 := pf43 m (by omega) hdm
    have t43 := ac43o q hz (by omega) hdq
    have tE := And.intro (@upd_upd AV) <| And.intro (@upd_upd (Option Blk)) <| And.intro Cf.cells.eq_1 <| And.intro e1 <| And.intro ho <| And.intro ty3 <| And.intro ty4 <| And.intro ty5 <| And.intro ty23 <| And.intro ty25 <| And.intro ty55 <| And.intro ty56 <| And.intro ty58 <| And.intro ty106 <| Try.results29; repeat' first | ((with_reducible first | apply w_seq | apply w_region | apply wl_nil | apply wr_nil | apply wr_nilA | apply wr_nilE | apply go_normal | apply go_ret | apply go_exit | apply blk_normal | apply blk_ret | apply blk_here | apply w_block | apply w_skip | apply w_exit | apply w_label)) | ((with_reducible apply l_box (d := 21)); exact zV; exact zU; decide) | ((with_reducible apply w_live (lvAt [[0, 1, 2], [1, 2, 3], [], [1, 2, 3], [2, 3, 8], [], [8]])); (focus (simp only [lvAt_zero, lvAt_succ]; rfl)); exact zLv) | ((with_reducible first | apply wz (tok Try.prog) | apply wr_z (tok Try.prog)); exact zZ; decide) | ((with_reducible first | apply wzg (tok Try.prog) | apply wr_zg (tok Try.prog)); exact zU; exact zL; exact zU; exact zZ; decide) | ((with_reducible first | apply wcall' | apply wr_call); exact zV; exact zVs; exact zAs; (focus (with_unfolding_all first | exact pf33 c q (by omega) | exact pf62 c m (by omega) | exact s43)); decide) | ((with_reducible first | apply wcallg' | apply wr_callg); exact zU; exact zL; exact zU; exact zV; exact zVs; exact zAs; (focus (with_unfolding_all first | exact pf33 c q (by omega) | exact pf62 c m (by omega) | exact s43)); decide) | ((with_reducible first | apply wacall'); exact zV; exact zVs; exact zAs; (focus (first | exact ⟨_, Try.func43, rfl, rfl⟩ | exact ⟨_, Try.func63, rfl, rfl⟩)); (focus (with_unfolding_all first | exact t43 _ _ | exact s63 _ _ rfl (by decide))); decide) | ((with_reducible first | apply m_calle); exact zU; exact zV; exact zVs; exact zAs; (focus (first | exact ⟨_, Try.func43, rfl, rfl⟩ | exact ⟨_, Try.func63, rfl, rfl⟩)); (focus (with_unfolding_all first | exact t43 _ _ | exact s63 _ _ rfl (by decide))); decide) | ((with_reducible first | apply w_ift'); exact zV; exact zU) | ((with_reducible first | apply w_iff'); exact zV; exact zU) | ((with_reducible first | apply fm_nil | apply fm_cons)) | ((with_reducible apply m_next); exact zU) | ((with_reducible apply m_nil0); exact zU) | ((with_reducible first | apply m_v (tok Try.prog)); exact zU; exact zZ; decide) | ((with_reducible first | apply m_call); exact zU; exact zV; exact zVs; exact zAs; (focus (with_unfolding_all first | exact pf33 c q (by omega) | exact pf62 c m (by omega) | exact s43)); decide) | ((with_reducible apply w_drawN (id := 4) [5] [([5], [0, 1, 2, 3, 4, 5, 6])] mixed); (focus (decide +kernel))) | ((with_reducible apply w_ret); (repeat (with_reducible first | apply go_ret | apply blk_ret)); (with_reducible apply done_ret (tok Try.prog)); exact zT; exact zD; exact zX) | fail
    all_goals try clear tE
    rfl
theorem pf29_ok (c : Cf) (q m : List Un) (hq : q.length ≤ 1000) (hm : m.length ≤ 1000) (hdq : ∀ u, u ∈ q → u.d.length ≤ 1000000) (hdm : ∀ u, u ∈ m → u.d.length ≤ 1000000) (h : put1 c q m = true) (hroom : (q.length : Int) + m.length ≤ c.q) : PF Try.prog 29 [.agg c.cells, .view (unRows q), .view (unRows m)] (fun r => r = .tuple [.view (unRows (q ++ m)), .int .i64 0]) := by
  have hk : qok c q = true := by simp only [put1, Bool.and_eq_true] at h; exact h.1
  have ha : m.all (mayU c) = true := by simp only [put1, Bool.and_eq_true] at h; exact h.2
  have hgood : c.good = true := by simp only [qok, Bool.and_eq_true] at hk; exact hk.1.1
  have hcq := cf_q hgood
  have e1 : (if qok c q = true then (0 : Int) else 8) = 0 := if_pos hk
  have ho := odd_eq c m
  rw [ha] at ho
  have hqm : (unRows (q ++ m)).length = q.length + m.length := by rw [unRows_len, List.length_append]
  refine pf_of_wf0 Try.func29 (c := _) rfl rfl (Nat.le_of_ble_eq_true rfl) (args_cll c q m) ?_
  rw [show Try.f29.ntmps = 33 from rfl]
  rcases Nat.eq_zero_or_pos q.length with hz | hz
  · rcases Nat.eq_zero_or_pos m.length with hy | hy
    · obtain rfl := List.eq_nil_of_length_eq_zero hz
      obtain rfl := List.eq_nil_of_length_eq_zero hy
      have s63 := fun H n hL hLn => ac63e H n 0 c.q hL hLn (by omega)
      have s43 := pf43 [] (by simp) hdm
      have tE := And.intro (@upd_upd AV) <| And.intro (@upd_upd (Option Blk)) <| And.intro Cf.cells.eq_1 <| And.intro e1 <| And.intro ho <| And.intro ty3 <| And.intro ty4 <| And.intro ty5 <| And.intro ty23 <| And.intro ty25 <| And.intro ty55 <| And.intro ty56 <| And.intro ty58 <| And.intro ty106 <| Try.results29; repeat' first | ((with_reducible first | apply w_seq | apply w_region | apply wl_nil | apply wr_nil | apply wr_nilA | apply wr_nilE | apply go_normal | apply go_ret | apply go_exit | apply blk_normal | apply blk_ret | apply blk_here | apply w_block | apply w_skip | apply w_exit | apply w_label)) | ((with_reducible apply l_box (d := 21)); exact zV; exact zU; decide) | ((with_reducible apply w_live (lvAt [[0, 1, 2], [1, 2, 3], [], [1, 2, 3], [2, 3, 8], [], [8]])); (focus (simp only [lvAt_zero, lvAt_succ]; rfl)); exact zLv) | ((with_reducible first | apply wz (tok Try.prog) | apply wr_z (tok Try.prog)); exact zZ; decide) | ((with_reducible first | apply wzg (tok Try.prog) | apply wr_zg (tok Try.prog)); exact zU; exact zL; exact zU; exact zZ; decide) | ((with_reducible first | apply wcall' | apply wr_call); exact zV; exact zVs; exact zAs; (focus (with_unfolding_all first | exact pf33 c [] (by simp) | exact pf62 c [] (by simp) | exact pf43_nilE)); decide) | ((with_reducible first | apply wcallg' | apply wr_callg); exact zU; exact zL; exact zU; exact zV; exact zVs; exact zAs; (focus (with_unfolding_all first | exact pf33 c [] (by simp) | exact pf62 c [] (by simp) | exact pf43_nilE)); decide) | ((with_reducible first | apply m_calle); exact zU; exact zV; exact zVs; exact zAs; (focus (first | exact ⟨_, Try.func63, rfl, rfl⟩)); (focus (with_unfolding_all first | exact s63 _ _ rfl (by decide))); decide) | ((with_reducible first | apply w_iff'); exact zV; exact zU) | ((with_reducible first | apply fm_nil | apply fm_cons)) | ((with_reducible apply m_next); exact zU) | ((with_reducible apply m_nil0); exact zU) | ((with_reducible first | apply m_v (tok Try.prog)); exact zU; exact zZ; decide) | ((with_reducible first | apply m_call); exact zU; exact zV; exact zVs; exact zAs; (focus (with_unfolding_all first | exact pf33 c [] (by simp) | exact pf62 c [] (by simp) | exact pf43_nilE)); decide) | ((with_reducible apply w_drawN (id := 4) [5] [([5], [0, 1, 2, 3, 4, 5, 6])] mixed); (focus (decide +kernel))) | ((with_reducible apply w_ret); (repeat (with_reducible first | apply go_ret | apply blk_ret)); (with_reducible first | apply donef_ret (tok Try.prog) | apply doneA_ret (tok Try.prog)); exact zT; exact zD) | fail
      all_goals try clear tE
      · exact FzL.tuple (ys := [.view [], .int .i64 0]) (.cons .nothing (.cons (.pur (.int _ _)) .nil))
      · exact ue_pur [] 0
      · rfl
    · obtain rfl := List.eq_nil_of_length_eq_zero hz
      have s63 := fun H n hL hLn => ac63 H n 0 0 [] m c.q hL (fun h => by cases h) (fun h => by cases h) hLn (by simp) (fun _ => hy) hm (by omega) hroom
      have s43 := pf43 m (by omega) hdm
      have hnp : ¬ 0 < ([] : List Un).length := by simp
      have tE := And.intro (@upd_upd AV) <| And.intro (@upd_upd (Option Blk)) <| And.intro Cf.cells.eq_1 <| And.intro e1 <| And.intro ho <| And.intro ty3 <| And.intro ty4 <| And.intro ty5 <| And.intro ty23 <| And.intro ty25 <| And.intro ty55 <| And.intro ty56 <| And.intro ty58 <| And.intro ty106 <| Try.results29; repeat' first | ((with_reducible first | apply w_seq | apply w_region | apply wl_nil | apply wr_nil | apply wr_nilA | apply wr_nilE | apply go_normal | apply go_ret | apply go_exit | apply blk_normal | apply blk_ret | apply blk_here | apply w_block | apply w_skip | apply w_exit | apply w_label)) | ((with_reducible apply l_box (d := 21)); exact zV; exact zU; decide) | ((with_reducible apply w_live (lvAt [[0, 1, 2], [1, 2, 3], [], [1, 2, 3], [2, 3, 8], [], [8]])); (focus (simp only [lvAt_zero, lvAt_succ]; rfl)); exact zLv) | ((with_reducible first | apply wz (tok Try.prog) | apply wr_z (tok Try.prog)); exact zZ; decide) | ((with_reducible first | apply wzg (tok Try.prog) | apply wr_zg (tok Try.prog)); exact zU; exact zL; exact zU; exact zZ; decide) | ((with_reducible first | apply wcall' | apply wr_call); exact zV; exact zVs; exact zAs; (focus (with_unfolding_all first | exact pf33 c [] (by simp) | exact pf62 c m (by omega) | exact pf43_nilE | exact s43)); decide) | ((with_reducible first | apply wcallg' | apply wr_callg); exact zU; exact zL; exact zU; exact zV; exact zVs; exact zAs; (focus (with_unfolding_all first | exact pf33 c [] (by simp) | exact pf62 c m (by omega) | exact pf43_nilE | exact s43)); decide) | ((with_reducible first | apply m_calle); exact zU; exact zV; exact zVs; exact zAs; (focus (first | exact ⟨_, Try.func63, rfl, rfl⟩)); (focus (with_unfolding_all first | exact s63 _ _ rfl (by decide))); decide) | ((with_reducible first | apply w_iff'); exact zV; exact zU) | ((with_reducible first | apply fm_nil | apply fm_cons)) | ((with_reducible apply m_next); exact zU) | ((with_reducible apply m_nil0); exact zU) | ((with_reducible first | apply m_v (tok Try.prog)); exact zU; exact zZ; decide) | ((with_reducible first | apply m_call); exact zU; exact zV; exact zVs; exact zAs; (focus (with_unfolding_all first | exact pf33 c [] (by simp) | exact pf62 c m (by omega) | exact pf43_nilE | exact s43)); decide) | ((with_reducible apply w_drawN (id := 4) [5] [([5], [0, 1, 2, 3, 4, 5, 6])] mixed); (focus (decide +kernel))) | ((with_reducible apply w_ret); (repeat (with_reducible first | apply go_ret | apply blk_ret)); (with_reducible first | apply donef_ret (tok Try.prog) | apply doneA_ret (tok Try.prog)); exact zT; exact zD) | fail
      all_goals try clear tE
      · refine FzL.tuple (ys := [.view (unRows m), .int .i64 0]) (.cons ?_ (.cons (.pur (.int _ _)) .nil))
        exact fz_rowsL (e := 58) (by simp [unRows_len]) (unRows_row m) (unRows_pur m) rfl
      · exact ue_pur m 0
      · rfl
  · have t43 := ac43o q hz (by omega) hdq
    have s43 := pf43 m (by omega) hdm
    have s63 := fun (H : Heap) (n : Nat) (hL : H 1 = some (.cells [.slice 0 0 q.length none 4] 106)) hid hLn => ac63 H n 1 0 q m c.q (by rw [ownR_pos 0 4 (show 0 < (unRows q).length by rw [unRows_len]; exact hz), unRows_len]; exact hL) (fun _ => hid) (fun _ => by decide) hLn hq (fun h => absurd h (by omega)) hm (by omega) hroom
    have tE := And.intro (@upd_upd AV) <| And.intro (@upd_upd (Option Blk)) <| And.intro Cf.cells.eq_1 <| And.intro e1 <| And.intro ho <| And.intro ty3 <| And.intro ty4 <| And.intro ty5 <| And.intro ty23 <| And.intro ty25 <| And.intro ty55 <| And.intro ty56 <| And.intro ty58 <| And.intro ty106 <| Try.results29; repeat' first | ((with_reducible first | apply w_seq | apply w_region | apply wl_nil | apply wr_nil | apply wr_nilA | apply wr_nilE | apply go_normal | apply go_ret | apply go_exit | apply blk_normal | apply blk_ret | apply blk_here | apply w_block | apply w_skip | apply w_exit | apply w_label)) | ((with_reducible apply l_box (d := 21)); exact zV; exact zU; decide) | ((with_reducible apply w_live (lvAt [[0, 1, 2], [1, 2, 3], [], [1, 2, 3], [2, 3, 8], [], [8]])); (focus (simp only [lvAt_zero, lvAt_succ]; rfl)); exact zLv) | ((with_reducible first | apply wz (tok Try.prog) | apply wr_z (tok Try.prog)); exact zZ; decide) | ((with_reducible first | apply wzg (tok Try.prog) | apply wr_zg (tok Try.prog)); exact zU; exact zL; exact zU; exact zZ; decide) | ((with_reducible first | apply wcall' | apply wr_call); exact zV; exact zVs; exact zAs; (focus (with_unfolding_all first | exact pf33 c q (by omega) | exact pf62 c m (by omega) | exact s43)); decide) | ((with_reducible first | apply wcallg' | apply wr_callg); exact zU; exact zL; exact zU; exact zV; exact zVs; exact zAs; (focus (with_unfolding_all first | exact pf33 c q (by omega) | exact pf62 c m (by omega) | exact s43)); decide) | ((with_reducible first | apply wacall'); exact zV; exact zVs; exact zAs; (focus (first | exact ⟨_, Try.func43, rfl, rfl⟩ | exact ⟨_, Try.func63, rfl, rfl⟩)); (focus (with_unfolding_all first | exact t43 _ _ | exact s63 _ _ rfl rfl (by decide))); decide) | ((with_reducible first | apply m_calle); exact zU; exact zV; exact zVs; exact zAs; (focus (first | exact ⟨_, Try.func43, rfl, rfl⟩ | exact ⟨_, Try.func63, rfl, rfl⟩)); (focus (with_unfolding_all first | exact t43 _ _ | exact s63 _ _ rfl rfl (by decide))); decide) | ((with_reducible first | apply w_iff'); exact zV; exact zU) | ((with_reducible first | apply fm_nil | apply fm_cons)) | ((with_reducible apply m_next); exact zU) | ((with_reducible apply m_nil0); exact zU) | ((with_reducible first | apply m_v (tok Try.prog)); exact zU; exact zZ; decide) | ((with_reducible first | apply m_call); exact zU; exact zV; exact zVs; exact zAs; (focus (with_unfolding_all first | exact pf33 c q (by omega) | exact pf62 c m (by omega) | exact s43)); decide) | ((with_reducible apply w_drawN (id := 4) [5] [([5], [0, 1, 2, 3, 4, 5, 6])] mixed); (focus (decide +kernel))) | ((with_reducible apply w_ret); (repeat (with_reducible first | apply go_ret | apply blk_ret)); (with_reducible first | apply donef_ret (tok Try.prog) | apply doneA_ret (tok Try.prog)); exact zT; exact zD) | fail
    all_goals try clear tE
    · refine FzL.tuple (ys := [.view (unRows (q ++ m)), .int .i64 0]) (.cons ?_ (.cons (.pur (.int _ _)) .nil))
      exact fz_rowsL (e := 58) (by rw [unRows_len, List.length_append]) (unRows_row (q ++ m)) (unRows_pur (q ++ m)) rfl
    · exact ue_pur (q ++ m) 0
    · rfl
theorem pf29 (c : Cf) (q m : List Un) (hq : q.length ≤ 1000) (hm : m.length ≤ 1000) (hdq : ∀ u, u ∈ q → u.d.length ≤ 1000000) (hdm : ∀ u, u ∈ m → u.d.length ≤ 1000000) : PF Try.prog 29 [.agg c.cells, .view (unRows q), .view (unRows m)] (fun r => r = .tuple [.view (unRows (putU c q m)), .int .i64 (putE c q m)]) := by
  cases h : put1 c q m with
  | false =>
    rw [show putU c q m = [] from if_neg (by rw [h]; simp), show putE c q m = 8 from if_neg (by rw [h]; simp)]
    exact ue_weak (pf29_bad c q m hq hm h)
  | true =>
    by_cases hr : (q.length : Int) + m.length ≤ c.q
    · rw [show putU c q m = q ++ m from if_pos ⟨h, hr⟩, show putE c q m = 0 by simp [putE, h, hr]]
      exact pf29_ok c q m hq hm hdq hdm h hr
    · rw [show putU c q m = [] from if_neg (fun hh => hr hh.2), show putE c q m = 230 by simp only [putE, h, hr, if_true, if_false]]
      exact ue_weak (pf29_full c q m hq hm hdq hdm h hr)
end Go.Proofs.Ytclldbeefbbdlaa
