/- Queues: may they be; equal ones; great ones. -/
import Derived.Test.YtclldbeefbbdlaaE1
open Go Go.Lg
set_option linter.unusedSimpArgs false
set_option linter.unusedVariables false
set_option maxHeartbeats 4000000
namespace Go.Proofs.Ytclldbeefbbdlaa
theorem args_cl (c : Cf) (l : List Un) : ∀ x, x ∈ [AV.agg c.cells, AV.view (unRows l)] → Pur x := by
  intro x hx
  simp only [List.mem_cons, List.not_mem_nil, or_false] at hx
  rcases hx with rfl | rfl
  · exact .agg (cells_pur c)
  · exact unRows_pur l
theorem args_ll (a b : List Un) : ∀ x, x ∈ [AV.view (unRows a), AV.view (unRows b)] → Pur x := by
  intro x hx
  simp only [List.mem_cons, List.not_mem_nil, or_false] at hx
  rcases hx with rfl | rfl
  · exact unRows_pur a
  · exact unRows_pur b
def qok (c : Cf) (l : List Un) : Bool := c.good && decide ((l.length : Int) ≤ c.q) && l.all (mayU c)
theorem odd_eq (c : Cf) (l : List Un) : (l.any fun u => !mayU c u) = !(l.all (mayU c)) := by simp [List.not_all_eq_any_not]
theorem pf33 (c : Cf) (l : List Un) (hl : l.length ≤ 1000000) : PF Try.prog 33 [.agg c.cells, .view (unRows l)] (fun r => r = .int .i64 (if qok c l = true then 0 else 8)) := by
  refine pf_of_w0 Try.func33 (c := _) rfl rfl (Nat.le_of_ble_eq_true rfl) (args_cl c l) ?_
  rw [show Try.f33.ntmps = 20 from rfl]
  cases hg : c.good with
  | false =>
    have ee : c.err = 8 := by simp [Cf.err, hg]
    have e1 : (if qok c l = true then (0 : Int) else 8) = 8 := if_neg (by simp [qok, hg])
    have tE := And.intro (@upd_upd AV) <| And.intro (@upd_upd (Option Blk)) <| And.intro Cf.cells.eq_1 <| And.intro ee <| And.intro unRows_len <| And.intro ty3 <| And.intro ty5 <| And.intro ty23 <| And.intro ty25 <| And.intro ty55 <| And.intro ty56 <| And.intro ty58 <| Try.results33; repeat' first | ((with_reducible first | apply w_seq | apply w_region | apply wl_nil | apply wr_nil | apply wr_nilA | apply wr_nilE | apply go_normal | apply go_ret | apply go_exit | apply blk_normal | apply blk_ret | apply blk_here | apply w_block | apply w_skip | apply w_exit | apply w_label)) | ((with_reducible first | apply wz (tok Try.prog) | apply wr_z (tok Try.prog)); exact zZ; decide) | ((with_reducible first | apply wskip' | apply wr_skip); exact zU; exact zL; exact zU; decide) | ((with_reducible first | apply wcall' | apply wr_call); exact zV; exact zVs; exact zAs; (focus (with_unfolding_all first | exact pf17 c | exact pf62 c l hl)); decide) | ((with_reducible first | apply w_ift'); exact zV; exact zU) | ((with_reducible apply w_ret); (repeat (with_reducible first | apply go_ret | apply blk_ret)); (with_reducible apply done_ret (tok Try.prog)); exact zT; exact zD; exact zX) | fail
    all_goals try clear tE
    rw [e1]; rfl
  | true =>
    have ee : c.err = 0 := by simp [Cf.err, hg]
    by_cases hq : (l.length : Int) ≤ c.q
    · have hq' : ¬ ((l.length : Int) > c.q) := by omega
      have ho := odd_eq c l
      cases ha : l.all (mayU c) with
      | false =>
        rw [ha] at ho
        have e1 : (if qok c l = true then (0 : Int) else 8) = 8 := if_neg (by simp only [qok, ha, Bool.and_false, Bool.false_eq_true, not_false_iff])
        have tE := And.intro (@upd_upd AV) <| And.intro (@upd_upd (Option Blk)) <| And.intro Cf.cells.eq_1 <| And.intro ee <| And.intro hq' <| And.intro ho <| And.intro unRows_len <| And.intro ty3 <| And.intro ty5 <| And.intro ty23 <| And.intro ty25 <| And.intro ty55 <| And.intro ty56 <| And.intro ty58 <| Try.results33; repeat' first | ((with_reducible first | apply w_seq | apply w_region | apply wl_nil | apply wr_nil | apply wr_nilA | apply wr_nilE | apply go_normal | apply go_ret | apply go_exit | apply blk_normal | apply blk_ret | apply blk_here | apply w_block | apply w_skip | apply w_exit | apply w_label)) | ((with_reducible first | apply wz (tok Try.prog) | apply wr_z (tok Try.prog)); exact zZ; decide) | ((with_reducible first | apply wzg (tok Try.prog) | apply wr_zg (tok Try.prog)); exact zU; exact zL; exact zU; exact zZ; decide) | ((with_reducible first | apply wcall' | apply wr_call); exact zV; exact zVs; exact zAs; (focus (with_unfolding_all first | exact pf17 c | exact pf62 c l hl)); decide) | ((with_reducible first | apply wcallg' | apply wr_callg); exact zU; exact zL; exact zU; exact zV; exact zVs; exact zAs; (focus (with_unfolding_all first | exact pf17 c | exact pf62 c l hl)); decide) | ((with_reducible first | apply w_ift'); exact zV; exact zU) | ((with_reducible apply w_ret); (repeat (with_reducible first | apply go_ret | apply blk_ret)); (with_reducible apply done_ret (tok Try.prog)); exact zT; exact zD; exact zX) | fail
        all_goals try clear tE
        rw [e1]; rfl
      | true =>
        rw [ha] at ho
        have e1 : (if qok c l = true then (0 : Int) else 8) = 0 := if_pos (by simp only [qok, ha, hg, Bool.and_true, Bool.true_and, decide_eq_true_eq]; exact hq)
        have tE := And.intro (@upd_upd AV) <| And.intro (@upd_upd (Option Blk)) <| And.intro Cf.cells.eq_1 <| And.intro ee <| And.intro hq' <| And.intro ho <| And.intro unRows_len <| And.intro ty3 <| And.intro ty5 <| And.intro ty23 <| And.intro ty25 <| And.intro ty55 <| And.intro ty56 <| And.intro ty58 <| Try.results33; repeat' first | ((with_reducible first | apply w_seq | apply w_region | apply wl_nil | apply wr_nil | apply wr_nilA | apply wr_nilE | apply go_normal | apply go_ret | apply go_exit | apply blk_normal | apply blk_ret | apply blk_here | apply w_block | apply w_skip | apply w_exit | apply w_label)) | ((with_reducible first | apply wz (tok Try.prog) | apply wr_z (tok Try.prog)); exact zZ; decide) | ((with_reducible first | apply wzg (tok Try.prog) | apply wr_zg (tok Try.prog)); exact zU; exact zL; exact zU; exact zZ; decide) | ((with_reducible first | apply wcall' | apply wr_call); exact zV; exact zVs; exact zAs; (focus (with_unfolding_all first | exact pf17 c | exact pf62 c l hl)); decide) | ((with_reducible first | apply wcallg' | apply wr_callg); exact zU; exact zL; exact zU; exact zV; exact zVs; exact zAs; (focus (with_unfolding_all first | exact pf17 c | exact pf62 c l hl)); decide) | ((with_reducible first | apply w_iff'); exact zV; exact zU) | ((with_reducible apply w_ret); (repeat (with_reducible first | apply go_ret | apply blk_ret)); (with_reducible apply done_ret (tok Try.prog)); exact zT; exact zD; exact zX) | fail
        all_goals try clear tE
        rw [e1]; rfl
    · have hq' : (l.length : Int) > c.q := by omega
      have e1 : (if qok c l = true then (0 : Int) else 8) = 8 := if_neg (by simp [qok]; intro _ h; omega)
      have tE := And.intro (@upd_upd AV) <| And.intro (@upd_upd (Option Blk)) <| And.intro Cf.cells.eq_1 <| And.intro ee <| And.intro hq' <| And.intro unRows_len <| And.intro ty3 <| And.intro ty5 <| And.intro ty23 <| And.intro ty25 <| And.intro ty55 <| And.intro ty56 <| And.intro ty58 <| Try.results33; repeat' first | ((with_reducible first | apply w_seq | apply w_region | apply wl_nil | apply wr_nil | apply wr_nilA | apply wr_nilE | apply go_normal | apply go_ret | apply go_exit | apply blk_normal | apply blk_ret | apply blk_here | apply w_block | apply w_skip | apply w_exit | apply w_label)) | ((with_reducible first | apply wz (tok Try.prog) | apply wr_z (tok Try.prog)); exact zZ; decide) | ((with_reducible first | apply wzg (tok Try.prog) | apply wr_zg (tok Try.prog)); exact zU; exact zL; exact zU; exact zZ; decide) | ((with_reducible first | apply wskip' | apply wr_skip); exact zU; exact zL; exact zU; decide) | ((with_reducible first | apply wcall' | apply wr_call); exact zV; exact zVs; exact zAs; (focus (with_unfolding_all first | exact pf17 c | exact pf62 c l hl)); decide) | ((with_reducible first | apply w_ift'); exact zV; exact zU) | ((with_reducible apply w_ret); (repeat (with_reducible first | apply go_ret | apply blk_ret)); (with_reducible apply done_ret (tok Try.prog)); exact zT; exact zD; exact zX) | fail
      all_goals try clear tE
      rw [e1]; rfl
theorem pf66 (c : Cf) (l : List Un) (hl : l.length ≤ 1000000) : PF Try.prog 66 [.agg c.cells, .view (unRows l)] (fun r => r = .bool (l.all (mayU c))) := by
  refine pf_of_w0 Try.func66 (c := _) rfl rfl (Nat.le_of_ble_eq_true rfl) (args_cl c l) ?_
  rw [show Try.f66.ntmps = 19 from rfl]
  have tE := And.intro (@upd_upd AV) <| And.intro (@upd_upd (Option Blk)) <| And.intro Cf.cells.eq_1 <| And.intro unRows_len <| And.intro ty3 <| And.intro ty4 <| And.intro ty5 <| And.intro ty23 <| And.intro ty55 <| And.intro ty56 <| And.intro ty58 <| Try.results66; repeat' first | ((with_reducible first | apply w_seq | apply w_region | apply wl_nil | apply wr_nil | apply wr_nilA | apply wr_nilE | apply go_normal | apply go_ret | apply go_exit | apply blk_normal | apply blk_ret | apply blk_here | apply w_block | apply w_skip | apply w_exit | apply w_label)) | ((with_reducible first | apply wz (tok Try.prog) | apply wr_z (tok Try.prog)); exact zZ; decide) | fail
  all_goals try clear tE
  refine w_loopS (S := Nat) (fun i => [(1, .view (unRows l)), (2, .vptr c.cells), (5, .int .i64 (i : Int))]) (fun _ => []) [] (fun i => i ≤ l.length ∧ l.all (mayU c) = (l.drop i).all (mayU c)) (fun i => l.length - i) 0 ?_ ⟨Nat.zero_le _, rfl⟩ ?_
  · (have tu0 : Pur _ := unRows_pur l; have tu1 : Pur _ := .vptr (cells_pur c); have tE := And.intro (@upd_upd AV) <| @upd_upd (Option Blk); exact kcanS [])
  · rintro i ⟨hi, hix⟩
    simp only [St.ofS, List.length_nil]
    have hw : IntKind.i64.wrap ((i : Int) + 1) = ((i + 1 : Nat) : Int) := by rw [wrap64 (by omega) (by omega)]; rfl
    by_cases e : i < l.length
    · have h1 : ((i : Int) < (l.length : Int)) = True := by simp; omega
      have h0 : (0 ≤ (i : Int)) = True := by simp
      obtain ⟨u, hu⟩ : ∃ u, l[i]? = some u := ⟨l[i], List.getElem?_eq_getElem e⟩
      have hr := un_row hu
      have hd : l.drop i = u :: l.drop (i + 1) := by rw [List.drop_eq_getElem_cons e]; rw [List.getElem?_eq_getElem e] at hu; cases hu; rfl
      rw [hd] at hix
      cases ht : mayU c u with
      | false =>
        have tE := And.intro (@upd_upd AV) <| And.intro (@upd_upd (Option Blk)) <| And.intro Cf.cells.eq_1 <| And.intro h1 <| And.intro h0 <| And.intro hr <| And.intro hw <| And.intro ht <| And.intro unRows_len <| And.intro ty3 <| And.intro ty4 <| And.intro ty5 <| And.intro ty23 <| And.intro ty55 <| And.intro ty56 <| And.intro ty58 <| Try.results66; repeat' first | ((with_reducible first | apply w_seq | apply w_region | apply wl_nil | apply wr_nil | apply wr_nilA | apply wr_nilE | apply go_normal | apply go_ret | apply go_exit | apply blk_normal | apply blk_ret | apply blk_here | apply w_block | apply w_skip | apply w_exit | apply w_label)) | ((with_reducible apply w_live (lvAt [[0, 1], [1, 2], [1, 2, 5], [1, 2, 5], [1, 2, 5], [], []])); (focus (simp only [lvAt_zero, lvAt_succ]; rfl)); exact zLv) | ((with_reducible first | apply wz (tok Try.prog) | apply wr_z (tok Try.prog)); exact zZ; decide) | ((with_reducible first | apply wcall' | apply wr_call); exact zV; exact zVs; exact zAs; (focus (with_unfolding_all first | exact pf95 c u)); decide) | ((with_reducible first | apply w_ift'); exact zV; exact zU) | ((with_reducible first | apply w_draw0 mixed); (focus (decide +kernel))) | ((with_reducible apply w_ret); (repeat (with_reducible first | apply go_ret | apply blk_ret)); (with_reducible apply done_ret (tok Try.prog)); exact zT; exact zD; exact zX) | fail
        all_goals try clear tE
        rw [hix]; simp [tup, ht]
      | true =>
        have tE := And.intro (@upd_upd AV) <| And.intro (@upd_upd (Option Blk)) <| And.intro Cf.cells.eq_1 <| And.intro h1 <| And.intro h0 <| And.intro hr <| And.intro hw <| And.intro ht <| And.intro unRows_len <| And.intro ty3 <| And.intro ty4 <| And.intro ty5 <| And.intro ty23 <| And.intro ty55 <| And.intro ty56 <| And.intro ty58 <| Try.results66; repeat' first | ((with_reducible first | apply w_seq | apply w_region | apply wl_nil | apply wr_nil | apply wr_nilA | apply wr_nilE | apply go_normal | apply go_ret | apply go_exit | apply blk_normal | apply blk_ret | apply blk_here | apply w_block | apply w_skip | apply w_exit | apply w_label)) | ((with_reducible apply w_live (lvAt [[0, 1], [1, 2], [1, 2, 5], [1, 2, 5], [1, 2, 5], [], []])); (focus (simp only [lvAt_zero, lvAt_succ]; rfl)); exact zLv) | ((with_reducible first | apply wz (tok Try.prog) | apply wr_z (tok Try.prog)); exact zZ; decide) | ((with_reducible first | apply wcall' | apply wr_call); exact zV; exact zVs; exact zAs; (focus (with_unfolding_all first | exact pf95 c u)); decide) | ((with_reducible first | apply w_ift'); exact zV; exact zU) | ((with_reducible first | apply w_iff'); exact zV; exact zU) | ((with_reducible first | apply w_draw0 mixed); (focus (decide +kernel))) | fail
        all_goals try clear tE
        refine ⟨i + 1, by omega, ⟨by omega, by rw [hix]; simp [ht]⟩, ?_⟩
        (have tu0 : Pur _ := unRows_pur l; have tu1 : Pur _ := .vptr (cells_pur c); have tE := And.intro (@upd_upd AV) <| @upd_upd (Option Blk); exact kcanS [])
    · have h1 : ((i : Int) < (l.length : Int)) = False := by simp; omega
      have hd : l.drop i = [] := List.drop_eq_nil_iff.2 (by omega)
      rw [hd] at hix
      have tE := And.intro (@upd_upd AV) <| And.intro (@upd_upd (Option Blk)) <| And.intro h1 <| And.intro unRows_len <| And.intro ty3 <| And.intro ty4 <| And.intro ty5 <| And.intro ty23 <| And.intro ty55 <| And.intro ty56 <| And.intro ty58 <| Try.results66; repeat' first | ((with_reducible first | apply w_seq | apply w_region | apply wl_nil | apply wr_nil | apply wr_nilA | apply wr_nilE | apply go_normal | apply go_ret | apply go_exit | apply blk_normal | apply blk_ret | apply blk_here | apply w_block | apply w_skip | apply w_exit | apply w_label)) | ((with_reducible first | apply wz (tok Try.prog) | apply wr_z (tok Try.prog)); exact zZ; decide) | ((with_reducible first | apply w_iff'); exact zV; exact zU) | ((with_reducible apply w_ret); (repeat (with_reducible first | apply go_ret | apply blk_ret)); (with_reducible apply done_ret (tok Try.prog)); exact zT; exact zD; exact zX) | fail
      all_goals try clear tE
      rw [hix]; rfl
theorem pf67 (c : Cf) (l : List Un) (hl : l.length ≤ 1000000) : PF Try.prog 67 [.agg c.cells, .view (unRows l)] (fun r => r = .bool (decide ((l.length : Int) ≤ c.q) && l.all (mayU c))) := by
  refine pf_of_w0 Try.func67 (c := _) rfl rfl (Nat.le_of_ble_eq_true rfl) (args_cl c l) ?_
  rw [show Try.f67.ntmps = 15 from rfl]
  have tE := And.intro (@upd_upd AV) <| And.intro (@upd_upd (Option Blk)) <| And.intro Cf.cells.eq_1 <| And.intro unRows_len <| And.intro ty3 <| And.intro ty5 <| And.intro ty23 <| And.intro ty55 <| And.intro ty56 <| And.intro ty58 <| Try.results67; repeat' first | ((with_reducible first | apply w_seq | apply w_region | apply wl_nil | apply wr_nil | apply wr_nilA | apply wr_nilE | apply go_normal | apply go_ret | apply go_exit | apply blk_normal | apply blk_ret | apply blk_here | apply w_block | apply w_skip | apply w_exit | apply w_label)) | ((with_reducible first | apply wz (tok Try.prog) | apply wr_z (tok Try.prog)); exact zZ; decide) | ((with_reducible first | apply wzg (tok Try.prog) | apply wr_zg (tok Try.prog)); exact zU; exact zL; exact zU; exact zZ; decide) | ((with_reducible first | apply wskip' | apply wr_skip); exact zU; exact zL; exact zU; decide) | ((with_reducible first | apply wcallg' | apply wr_callg); exact zU; exact zL; exact zU; exact zV; exact zVs; exact zAs; (focus (with_unfolding_all first | exact pf66 c l hl)); decide) | ((with_reducible first | apply wsplit | apply wr_split); exact zU; exact zL; constructor <;> intro _) | ((with_reducible apply w_ret); (repeat (with_reducible first | apply go_ret | apply blk_ret)); (with_reducible apply done_ret (tok Try.prog)); exact zT; exact zD; exact zX) | fail
  all_goals try clear tE
  all_goals first | (simp_all [tup]; done) | (simp_all [tup]; intro h; omega)
theorem pf41 (c : Cf) (l : List Un) (hl : l.length ≤ 1000000) : PF Try.prog 41 [.agg c.cells, .view (unRows l)] (fun r => r = .int .i64 (if qok c l = true then 0 else 8)) := by
  refine pf_of_w0 Try.func41 (c := _) rfl rfl (Nat.le_of_ble_eq_true rfl) (args_cl c l) ?_
  rw [show Try.f41.ntmps = 14 from rfl]
  cases hg : c.good with
  | false =>
    have tE := And.intro (@upd_upd AV) <| And.intro (@upd_upd (Option Blk)) <| And.intro Cf.cells.eq_1 <| And.intro hg <| And.intro ty3 <| And.intro ty4 <| And.intro ty23 <| Try.results41; repeat' first | ((with_reducible first | apply w_seq | apply w_region | apply wl_nil | apply wr_nil | apply wr_nilA | apply wr_nilE | apply go_normal | apply go_ret | apply go_exit | apply blk_normal | apply blk_ret | apply blk_here | apply w_block | apply w_skip | apply w_exit | apply w_label)) | ((with_reducible first | apply wz (tok Try.prog) | apply wr_z (tok Try.prog)); exact zZ; decide) | ((with_reducible first | apply wskip' | apply wr_skip); exact zU; exact zL; exact zU; decide) | ((with_reducible first | apply wcall' | apply wr_call); exact zV; exact zVs; exact zAs; (focus (with_unfolding_all first | exact pf51 c | exact pf67 c l hl)); decide) | ((with_reducible first | apply w_ift'); exact zV; exact zU) | ((with_reducible apply w_ret); (repeat (with_reducible first | apply go_ret | apply blk_ret)); (with_reducible apply done_ret (tok Try.prog)); exact zT; exact zD; exact zX) | fail
    all_goals try clear tE
    simp [tup, qok, hg]
  | true =>
    cases ha : decide ((l.length : Int) ≤ c.q) && l.all (mayU c) with
    | false =>
      have tE := And.intro (@upd_upd AV) <| And.intro (@upd_upd (Option Blk)) <| And.intro Cf.cells.eq_1 <| And.intro hg <| And.intro ha <| And.intro ty3 <| And.intro ty4 <| And.intro ty23 <| Try.results41; repeat' first | ((with_reducible first | apply w_seq | apply w_region | apply wl_nil | apply wr_nil | apply wr_nilA | apply wr_nilE | apply go_normal | apply go_ret | apply go_exit | apply blk_normal | apply blk_ret | apply blk_here | apply w_block | apply w_skip | apply w_exit | apply w_label)) | ((with_reducible first | apply wz (tok Try.prog) | apply wr_z (tok Try.prog)); exact zZ; decide) | ((with_reducible first | apply wzg (tok Try.prog) | apply wr_zg (tok Try.prog)); exact zU; exact zL; exact zU; exact zZ; decide) | ((with_reducible first | apply wcall' | apply wr_call); exact zV; exact zVs; exact zAs; (focus (with_unfolding_all first | exact pf51 c | exact pf67 c l hl)); decide) | ((with_reducible first | apply wcallg' | apply wr_callg); exact zU; exact zL; exact zU; exact zV; exact zVs; exact zAs; (focus (with_unfolding_all first | exact pf51 c | exact pf67 c l hl)); decide) | ((with_reducible first | apply w_ift'); exact zV; exact zU) | ((with_reducible apply w_ret); (repeat (with_reducible first | apply go_ret | apply blk_ret)); (with_reducible apply done_ret (tok Try.prog)); exact zT; exact zD; exact zX) | fail
      all_goals try clear tE
      have : qok c l = false := by rw [qok, hg, Bool.true_and]; exact ha
      simp [tup, this]
    | true =>
      have tE := And.intro (@upd_upd AV) <| And.intro (@upd_upd (Option Blk)) <| And.intro Cf.cells.eq_1 <| And.intro hg <| And.intro ha <| And.intro ty3 <| And.intro ty4 <| And.intro ty23 <| Try.results41; repeat' first | ((with_reducible first | apply w_seq | apply w_region | apply wl_nil | apply wr_nil | apply wr_nilA | apply wr_nilE | apply go_normal | apply go_ret | apply go_exit | apply blk_normal | apply blk_ret | apply blk_here | apply w_block | apply w_skip | apply w_exit | apply w_label)) | ((with_reducible first | apply wz (tok Try.prog) | apply wr_z (tok Try.prog)); exact zZ; decide) | ((with_reducible first | apply wzg (tok Try.prog) | apply wr_zg (tok Try.prog)); exact zU; exact zL; exact zU; exact zZ; decide) | ((with_reducible first | apply wcall' | apply wr_call); exact zV; exact zVs; exact zAs; (focus (with_unfolding_all first | exact pf51 c | exact pf67 c l hl)); decide) | ((with_reducible first | apply wcallg' | apply wr_callg); exact zU; exact zL; exact zU; exact zV; exact zVs; exact zAs; (focus (with_unfolding_all first | exact pf51 c | exact pf67 c l hl)); decide) | ((with_reducible first | apply w_iff'); exact zV; exact zU) | ((with_reducible apply w_ret); (repeat (with_reducible first | apply go_ret | apply blk_ret)); (with_reducible apply done_ret (tok Try.prog)); exact zT; exact zD; exact zX) | fail
      all_goals try clear tE
      have : qok c l = true := by rw [qok, hg, Bool.true_and]; exact ha
      simp [tup, this]
def great (l : List Un) : Bool := (l.take 40).any (fun u => decide (u.d.length > 100)) || decide (l.length > 40)
theorem pf34 (l : List Un) : PF Try.prog 34 [.view (unRows l)] (fun r => r = .bool (great l)) := by
  refine pf_of_w0 Try.func34 (c := _) rfl rfl (Nat.le_of_ble_eq_true rfl) (fun x hx => by rcases List.mem_singleton.1 hx with rfl; exact unRows_pur l) ?_
  rw [show Try.f34.ntmps = 24 from rfl]
  have tE := And.intro (@upd_upd AV) <| And.intro (@upd_upd (Option Blk)) <| And.intro unRows_len <| And.intro ty3 <| And.intro ty5 <| And.intro ty55 <| And.intro ty56 <| And.intro ty58 <| Try.results34; repeat' first | ((with_reducible first | apply w_seq | apply w_region | apply wl_nil | apply wr_nil | apply wr_nilA | apply wr_nilE | apply go_normal | apply go_ret | apply go_exit | apply blk_normal | apply blk_ret | apply blk_here | apply w_block | apply w_skip | apply w_exit | apply w_label)) | ((with_reducible first | apply wz (tok Try.prog) | apply wr_z (tok Try.prog)); exact zZ; decide) | fail
  all_goals try clear tE
  refine w_loopS (S := Nat) (fun i => [(0, .view (unRows l)), (3, .int .i64 (i : Int))]) (fun _ => []) [] (fun i => i ≤ l.length ∧ i ≤ 40 ∧ (l.take 40).any (fun u => decide (u.d.length > 100)) = ((l.take 40).drop i).any (fun u => decide (u.d.length > 100))) (fun i => 40 - i) 0 ?_ ⟨Nat.zero_le _, by decide, rfl⟩ ?_
  · (have tu0 : Pur _ := unRows_pur l; have tE := And.intro (@upd_upd AV) <| @upd_upd (Option Blk); exact kcanS [])
  · rintro i ⟨hi, hi40, hix⟩
    simp only [St.ofS, List.length_nil]
    have hw : IntKind.i64.wrap ((i : Int) + 1) = ((i + 1 : Nat) : Int) := by rw [wrap64 (by omega) (by omega)]; rfl
    by_cases e : i < l.length
    · have h1 : ((i : Int) < (l.length : Int)) = True := by simp; omega
      by_cases e4 : i < 40
      · have h4 : ((i : Int) < 40) = True := by simp; omega
        have h0 : (0 ≤ (i : Int)) = True := by simp
        obtain ⟨u, hu⟩ : ∃ u, l[i]? = some u := ⟨l[i], List.getElem?_eq_getElem e⟩
        have hr := un_row hu
        have hu4 : (l.take 40)[i]? = some u := by rw [List.getElem?_take, if_pos e4]; exact hu
        have el4 : i < (l.take 40).length := by rw [List.length_take]; omega
        have hd : (l.take 40).drop i = u :: (l.take 40).drop (i + 1) := by rw [List.drop_eq_getElem_cons el4]; rw [List.getElem?_eq_getElem el4] at hu4; cases hu4; rfl
        rw [hd] at hix
        by_cases hb : (u.d.length : Int) > 100
        · have tE := And.intro (@upd_upd AV) <| And.intro (@upd_upd (Option Blk)) <| And.intro h1 <| And.intro h4 <| And.intro h0 <| And.intro hr <| And.intro hw <| And.intro hb <| And.intro unRows_len <| And.intro byteRows_len <| And.intro ty3 <| And.intro ty5 <| And.intro ty55 <| And.intro ty56 <| And.intro ty58 <| Try.results34; repeat' first | ((with_reducible first | apply w_seq | apply w_region | apply wl_nil | apply wr_nil | apply wr_nilA | apply wr_nilE | apply go_normal | apply go_ret | apply go_exit | apply blk_normal | apply blk_ret | apply blk_here | apply w_block | apply w_skip | apply w_exit | apply w_label)) | ((with_reducible first | apply wz (tok Try.prog) | apply wr_z (tok Try.prog)); exact zZ; decide) | ((with_reducible first | apply wzg (tok Try.prog) | apply wr_zg (tok Try.prog)); exact zU; exact zL; exact zU; exact zZ; decide) | ((with_reducible first | apply w_ift'); exact zV; exact zU) | ((with_reducible apply w_ret); (repeat (with_reducible first | apply go_ret | apply blk_ret)); (with_reducible apply done_ret (tok Try.prog)); exact zT; exact zD; exact zX) | fail
          all_goals try clear tE
          have : u.d.length > 100 := by omega
          simp [tup, great, hix, this]
        · have tE := And.intro (@upd_upd AV) <| And.intro (@upd_upd (Option Blk)) <| And.intro h1 <| And.intro h4 <| And.intro h0 <| And.intro hr <| And.intro hw <| And.intro hb <| And.intro unRows_len <| And.intro byteRows_len <| And.intro ty3 <| And.intro ty5 <| And.intro ty55 <| And.intro ty56 <| And.intro ty58 <| Try.results34; repeat' first | ((with_reducible first | apply w_seq | apply w_region | apply wl_nil | apply wr_nil | apply wr_nilA | apply wr_nilE | apply go_normal | apply go_ret | apply go_exit | apply blk_normal | apply blk_ret | apply blk_here | apply w_block | apply w_skip | apply w_exit | apply w_label)) | ((with_reducible first | apply wz (tok Try.prog) | apply wr_z (tok Try.prog)); exact zZ; decide) | ((with_reducible first | apply wzg (tok Try.prog) | apply wr_zg (tok Try.prog)); exact zU; exact zL; exact zU; exact zZ; decide) | ((with_reducible first | apply w_ift'); exact zV; exact zU) | ((with_reducible first | apply w_iff'); exact zV; exact zU) | fail
          all_goals try clear tE
          have : ¬ (u.d.length > 100) := by omega
          refine ⟨i + 1, by omega, ⟨by omega, by omega, by rw [hix]; simp [this]⟩, ?_⟩
          (have tu0 : Pur _ := unRows_pur l; have tE := And.intro (@upd_upd AV) <| @upd_upd (Option Blk); exact kcanS [])
      · have h4 : ((i : Int) < 40) = False := by simp; omega
        have hd : (l.take 40).drop i = [] := List.drop_eq_nil_iff.2 (by rw [List.length_take]; omega)
        rw [hd] at hix
        have tE := And.intro (@upd_upd AV) <| And.intro (@upd_upd (Option Blk)) <| And.intro h1 <| And.intro h4 <| And.intro unRows_len <| And.intro ty3 <| And.intro ty5 <| And.intro ty55 <| And.intro ty56 <| And.intro ty58 <| Try.results34; repeat' first | ((with_reducible first | apply w_seq | apply w_region | apply wl_nil | apply wr_nil | apply wr_nilA | apply wr_nilE | apply go_normal | apply go_ret | apply go_exit | apply blk_normal | apply blk_ret | apply blk_here | apply w_block | apply w_skip | apply w_exit | apply w_label)) | ((with_reducible first | apply wz (tok Try.prog) | apply wr_z (tok Try.prog)); exact zZ; decide) | ((with_reducible first | apply wzg (tok Try.prog) | apply wr_zg (tok Try.prog)); exact zU; exact zL; exact zU; exact zZ; decide) | ((with_reducible first | apply w_iff'); exact zV; exact zU) | ((with_reducible apply w_ret); (repeat (with_reducible first | apply go_ret | apply blk_ret)); (with_reducible apply done_ret (tok Try.prog)); exact zT; exact zD; exact zX) | fail
        all_goals try clear tE
        simp only [tup, great, hix, List.any_nil, Bool.false_or]
        congr 1
        exact decide_eq_decide.2 (by omega)
    · have h1 : ((i : Int) < (l.length : Int)) = False := by simp; omega
      have hd : (l.take 40).drop i = [] := List.drop_eq_nil_iff.2 (by rw [List.length_take]; omega)
      rw [hd] at hix
      have tE := And.intro (@upd_upd AV) <| And.intro (@upd_upd (Option Blk)) <| And.intro h1 <| And.intro unRows_len <| And.intro ty3 <| And.intro ty5 <| And.intro ty55 <| And.intro ty56 <| And.intro ty58 <| Try.results34; repeat' first | ((with_reducible first | apply w_seq | apply w_region | apply wl_nil | apply wr_nil | apply wr_nilA | apply wr_nilE | apply go_normal | apply go_ret | apply go_exit | apply blk_normal | apply blk_ret | apply blk_here | apply w_block | apply w_skip | apply w_exit | apply w_label)) | ((with_reducible first | apply wz (tok Try.prog) | apply wr_z (tok Try.prog)); exact zZ; decide) | ((with_reducible first | apply wskip' | apply wr_skip); exact zU; exact zL; exact zU; decide) | ((with_reducible first | apply w_iff'); exact zV; exact zU) | ((with_reducible apply w_ret); (repeat (with_reducible first | apply go_ret | apply blk_ret)); (with_reducible apply done_ret (tok Try.prog)); exact zT; exact zD; exact zX) | fail
      all_goals try clear tE
      simp only [tup, great, hix, List.any_nil, Bool.false_or]
      congr 1
      exact decide_eq_decide.2 (by omega)
end Go.Proofs.Ytclldbeefbbdlaa
