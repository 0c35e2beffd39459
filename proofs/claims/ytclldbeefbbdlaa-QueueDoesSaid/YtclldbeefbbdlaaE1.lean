/- Units: which ones may wait. -/
import Derived.Test.YtclldbeefbbdlaaLm5
import Derived.Test.YtclldbeefbbdlaaC8
open Go Go.Lg
set_option linter.unusedSimpArgs false
set_option linter.unusedVariables false
set_option maxHeartbeats 4000000
namespace Go.Proofs.Ytclldbeefbbdlaa
structure Un where
  k : Int
  p : Int
  f : Int
  d : List UInt8
deriving DecidableEq
def Un.cells (u : Un) : List AV := [.int .u8 u.k, .int .i64 u.p, .int .i64 u.f, .view (byteRows u.d)]
theorem un_pur (u : Un) : ∀ x, x ∈ u.cells → Pur x := by
  intro x hx
  simp only [Un.cells, List.mem_cons, List.not_mem_nil, or_false] at hx
  rcases hx with rfl | rfl | rfl | rfl
  · exact .int _ _
  · exact .int _ _
  · exact .int _ _
  · exact byteRows_pur _
def unRows (l : List Un) : List (List AV) := l.map Un.cells
theorem unRows_len (l : List Un) : (unRows l).length = l.length := by simp [unRows]
theorem unRows_pur (l : List Un) : Pur (.view (unRows l)) := by
  refine .view fun r hr => ?_
  simp only [unRows, List.mem_map] at hr
  obtain ⟨x, _, rfl⟩ := hr; exact un_pur x
theorem un_row {l : List Un} {i : Nat} {u : Un} (h : l[i]? = some u) : (unRows l)[i]? = some [.int .u8 u.k, .int .i64 u.p, .int .i64 u.f, .view (byteRows u.d)] := by
  simp [unRows, h, Un.cells]
/-- May a unit wait? -/
def mayU (c : Cf) (u : Un) : Bool := decide (((u.k = 2 ∧ (u.d.length : Int) = c.z) ∨ (u.k = 1 ∧ (u.d.length : Int) = 0)) ∧ 0 ≤ u.p ∧ u.p < c.p ∧ 0 ≤ u.f ∧ u.f < c.fr)
theorem args_cu (c : Cf) (u : Un) : ∀ x, x ∈ [AV.agg c.cells, AV.agg u.cells] → Pur x := by
  intro x hx
  simp only [List.mem_cons, List.not_mem_nil, or_false] at hx
  rcases hx with rfl | rfl
  · exact .agg (cells_pur c)
  · exact .agg (un_pur u)
theorem pf93 (c : Cf) (u : Un) : PF Try.prog 93 [.agg c.cells, .agg u.cells] (fun r => r = .bool (mayU c u)) := by
  refine pf_of_w0 Try.func93 (c := _) rfl rfl (Nat.le_of_ble_eq_true rfl) (args_cu c u) ?_
  rw [show Try.f93.ntmps = 44 from rfl]
  by_cases h2 : u.k = 2
  · have k1 : (u.k == 2) = true := by simpa using h2
    have tE := And.intro (@upd_upd AV) <| And.intro (@upd_upd (Option Blk)) <| And.intro Cf.cells.eq_1 <| And.intro Un.cells.eq_1 <| And.intro byteRows_len <| And.intro k1 <| And.intro ty3 <| And.intro ty5 <| And.intro ty23 <| And.intro ty56 <| And.intro ty58 <| Try.results93; repeat' first | ((with_reducible first | apply w_seq | apply w_region | apply wl_nil | apply wr_nil | apply wr_nilA | apply wr_nilE | apply go_normal | apply go_ret | apply go_exit | apply blk_normal | apply blk_ret | apply blk_here | apply w_block | apply w_skip | apply w_exit | apply w_label)) | ((with_reducible first | apply wz (tok Try.prog) | apply wr_z (tok Try.prog)); exact zZ; decide) | ((with_reducible first | apply wzg (tok Try.prog) | apply wr_zg (tok Try.prog)); exact zU; exact zL; exact zU; exact zZ; decide) | ((with_reducible first | apply wskip' | apply wr_skip); exact zU; exact zL; exact zU; decide) | ((with_reducible first | apply wsplit | apply wr_split); exact zU; exact zL; constructor <;> intro _) | ((with_reducible first | apply w_ift'); exact zV; exact zU) | ((with_reducible apply w_ret); (repeat (with_reducible first | apply go_ret | apply blk_ret)); (with_reducible apply done_ret (tok Try.prog)); exact zT; exact zD; exact zX) | fail
    all_goals try clear tE
    all_goals (simp_all [tup, mayU]; try omega)
  · have k1 : (u.k == 2) = false := by simpa using h2
    by_cases h1 : u.k = 1
    · have k2 : (u.k == 1) = true := by simpa using h1
      have tE := And.intro (@upd_upd AV) <| And.intro (@upd_upd (Option Blk)) <| And.intro Cf.cells.eq_1 <| And.intro Un.cells.eq_1 <| And.intro byteRows_len <| And.intro k1 <| And.intro k2 <| And.intro ty3 <| And.intro ty5 <| And.intro ty23 <| And.intro ty56 <| And.intro ty58 <| Try.results93; repeat' first | ((with_reducible first | apply w_seq | apply w_region | apply wl_nil | apply wr_nil | apply wr_nilA | apply wr_nilE | apply go_normal | apply go_ret | apply go_exit | apply blk_normal | apply blk_ret | apply blk_here | apply w_block | apply w_skip | apply w_exit | apply w_label)) | ((with_reducible first | apply blk_off); decide) | ((with_reducible first | apply wz (tok Try.prog) | apply wr_z (tok Try.prog)); exact zZ; decide) | ((with_reducible first | apply wzg (tok Try.prog) | apply wr_zg (tok Try.prog)); exact zU; exact zL; exact zU; exact zZ; decide) | ((with_reducible first | apply wskip' | apply wr_skip); exact zU; exact zL; exact zU; decide) | ((with_reducible first | apply wsplit | apply wr_split); exact zU; exact zL; constructor <;> intro _) | ((with_reducible first | apply w_ift'); exact zV; exact zU) | ((with_reducible first | apply w_iff'); exact zV; exact zU) | ((with_reducible apply w_ret); (repeat (with_reducible first | apply go_ret | apply blk_ret)); (with_reducible apply done_ret (tok Try.prog)); exact zT; exact zD; exact zX) | fail
      all_goals try clear tE
      all_goals (simp_all [tup, mayU]; try omega)
    · have k2 : (u.k == 1) = false := by simpa using h1
      have tE := And.intro (@upd_upd AV) <| And.intro (@upd_upd (Option Blk)) <| And.intro Cf.cells.eq_1 <| And.intro Un.cells.eq_1 <| And.intro byteRows_len <| And.intro k1 <| And.intro k2 <| And.intro ty3 <| And.intro ty5 <| And.intro ty23 <| And.intro ty56 <| And.intro ty58 <| Try.results93; repeat' first | ((with_reducible first | apply w_seq | apply w_region | apply wl_nil | apply wr_nil | apply wr_nilA | apply wr_nilE | apply go_normal | apply go_ret | apply go_exit | apply blk_normal | apply blk_ret | apply blk_here | apply w_block | apply w_skip | apply w_exit | apply w_label)) | ((with_reducible first | apply blk_off); decide) | ((with_reducible first | apply wz (tok Try.prog) | apply wr_z (tok Try.prog)); exact zZ; decide) | ((with_reducible first | apply w_iff'); exact zV; exact zU) | ((with_reducible apply w_ret); (repeat (with_reducible first | apply go_ret | apply blk_ret)); (with_reducible apply done_ret (tok Try.prog)); exact zT; exact zD; exact zX) | fail
      all_goals try clear tE
      all_goals (simp_all [tup, mayU]; try omega)
def may20 (c : Cf) (u : Un) : Bool := decide ((u.k = 0 ∧ u.p = 0 ∧ (u.d.length : Int) = 0) ∨ (u.k = 1 ∧ 0 ≤ u.p ∧ u.p < c.p ∧ (u.d.length : Int) = 0) ∨ (u.k = 2 ∧ 0 ≤ u.p ∧ u.p < c.p ∧ (u.d.length : Int) = c.z))
theorem pf103 (c : Cf) (u : Un) : PF Try.prog 103 [.agg c.cells, .agg u.cells] (fun r => r = .bool (may20 c u)) := by
  refine pf_of_w0 Try.func103 (c := _) rfl rfl (Nat.le_of_ble_eq_true rfl) (args_cu c u) ?_
  rw [show Try.f103.ntmps = 56 from rfl]
  by_cases h0 : u.k = 0
  · have k0 : (u.k == 0) = true := by simpa using h0
    have tE := And.intro (@upd_upd AV) <| And.intro (@upd_upd (Option Blk)) <| And.intro Cf.cells.eq_1 <| And.intro Un.cells.eq_1 <| And.intro byteRows_len <| And.intro k0 <| And.intro ty3 <| And.intro ty5 <| And.intro ty23 <| And.intro ty56 <| And.intro ty58 <| Try.results103; repeat' first | ((with_reducible first | apply w_seq | apply w_region | apply wl_nil | apply wr_nil | apply wr_nilA | apply wr_nilE | apply go_normal | apply go_ret | apply go_exit | apply blk_normal | apply blk_ret | apply blk_here | apply w_block | apply w_skip | apply w_exit | apply w_label)) | ((with_reducible first | apply wz (tok Try.prog) | apply wr_z (tok Try.prog)); exact zZ; decide) | ((with_reducible first | apply wzg (tok Try.prog) | apply wr_zg (tok Try.prog)); exact zU; exact zL; exact zU; exact zZ; decide) | ((with_reducible first | apply wskip' | apply wr_skip); exact zU; exact zL; exact zU; decide) | ((with_reducible first | apply wsplit | apply wr_split); exact zU; exact zL; constructor <;> intro _) | ((with_reducible first | apply w_ift'); exact zV; exact zU) | ((with_reducible apply w_ret); (repeat (with_reducible first | apply go_ret | apply blk_ret)); (with_reducible apply done_ret (tok Try.prog)); exact zT; exact zD; exact zX) | fail
    all_goals try clear tE
    all_goals first | (simp_all [tup, may20]; done) | (simp_all [tup, may20]; omega) | (simp_all [tup, may20]; rw [Bool.eq_iff_iff]; simp_all <;> omega)
  · have k0 : (u.k == 0) = false := by simpa using h0
    by_cases h1 : u.k = 1
    · have k1 : (u.k == 1) = true := by simpa using h1
      have tE := And.intro (@upd_upd AV) <| And.intro (@upd_upd (Option Blk)) <| And.intro Cf.cells.eq_1 <| And.intro Un.cells.eq_1 <| And.intro byteRows_len <| And.intro k0 <| And.intro k1 <| And.intro ty3 <| And.intro ty5 <| And.intro ty23 <| And.intro ty56 <| And.intro ty58 <| Try.results103; repeat' first | ((with_reducible first | apply w_seq | apply w_region | apply wl_nil | apply wr_nil | apply wr_nilA | apply wr_nilE | apply go_normal | apply go_ret | apply go_exit | apply blk_normal | apply blk_ret | apply blk_here | apply w_block | apply w_skip | apply w_exit | apply w_label)) | ((with_reducible first | apply wz (tok Try.prog) | apply wr_z (tok Try.prog)); exact zZ; decide) | ((with_reducible first | apply wzg (tok Try.prog) | apply wr_zg (tok Try.prog)); exact zU; exact zL; exact zU; exact zZ; decide) | ((with_reducible first | apply wskip' | apply wr_skip); exact zU; exact zL; exact zU; decide) | ((with_reducible first | apply wsplit | apply wr_split); exact zU; exact zL; constructor <;> intro _) | ((with_reducible first | apply w_ift'); exact zV; exact zU) | ((with_reducible first | apply w_iff'); exact zV; exact zU) | ((with_reducible apply w_ret); (repeat (with_reducible first | apply go_ret | apply blk_ret)); (with_reducible apply done_ret (tok Try.prog)); exact zT; exact zD; exact zX) | fail
      all_goals try clear tE
      all_goals first | (simp_all [tup, may20]; done) | (simp_all [tup, may20]; omega) | (simp_all [tup, may20]; rw [Bool.eq_iff_iff]; simp_all <;> omega)
    · have k1 : (u.k == 1) = false := by simpa using h1
      by_cases h2 : u.k = 2
      · have k2 : (u.k == 2) = true := by simpa using h2
        have tE := And.intro (@upd_upd AV) <| And.intro (@upd_upd (Option Blk)) <| And.intro Cf.cells.eq_1 <| And.intro Un.cells.eq_1 <| And.intro byteRows_len <| And.intro k0 <| And.intro k1 <| And.intro k2 <| And.intro ty3 <| And.intro ty5 <| And.intro ty23 <| And.intro ty56 <| And.intro ty58 <| Try.results103; repeat' first | ((with_reducible first | apply w_seq | apply w_region | apply wl_nil | apply wr_nil | apply wr_nilA | apply wr_nilE | apply go_normal | apply go_ret | apply go_exit | apply blk_normal | apply blk_ret | apply blk_here | apply w_block | apply w_skip | apply w_exit | apply w_label)) | ((with_reducible first | apply wz (tok Try.prog) | apply wr_z (tok Try.prog)); exact zZ; decide) | ((with_reducible first | apply wzg (tok Try.prog) | apply wr_zg (tok Try.prog)); exact zU; exact zL; exact zU; exact zZ; decide) | ((with_reducible first | apply wskip' | apply wr_skip); exact zU; exact zL; exact zU; decide) | ((with_reducible first | apply wsplit | apply wr_split); exact zU; exact zL; constructor <;> intro _) | ((with_reducible first | apply w_ift'); exact zV; exact zU) | ((with_reducible first | apply w_iff'); exact zV; exact zU) | ((with_reducible apply w_ret); (repeat (with_reducible first | apply go_ret | apply blk_ret)); (with_reducible apply done_ret (tok Try.prog)); exact zT; exact zD; exact zX) | fail
        all_goals try clear tE
        all_goals first | (simp_all [tup, may20]; done) | (simp_all [tup, may20]; omega) | (simp_all [tup, may20]; rw [Bool.eq_iff_iff]; simp_all <;> omega)
      · have k2 : (u.k == 2) = false := by simpa using h2
        have tE := And.intro (@upd_upd AV) <| And.intro (@upd_upd (Option Blk)) <| And.intro Cf.cells.eq_1 <| And.intro Un.cells.eq_1 <| And.intro byteRows_len <| And.intro k0 <| And.intro k1 <| And.intro k2 <| And.intro ty3 <| And.intro ty5 <| And.intro ty23 <| And.intro ty56 <| And.intro ty58 <| Try.results103; repeat' first | ((with_reducible first | apply w_seq | apply w_region | apply wl_nil | apply wr_nil | apply wr_nilA | apply wr_nilE | apply go_normal | apply go_ret | apply go_exit | apply blk_normal | apply blk_ret | apply blk_here | apply w_block | apply w_skip | apply w_exit | apply w_label)) | ((with_reducible first | apply wz (tok Try.prog) | apply wr_z (tok Try.prog)); exact zZ; decide) | ((with_reducible first | apply w_iff'); exact zV; exact zU) | ((with_reducible apply w_ret); (repeat (with_reducible first | apply go_ret | apply blk_ret)); (with_reducible apply done_ret (tok Try.prog)); exact zT; exact zD; exact zX) | fail
        all_goals try clear tE
        all_goals first | (simp_all [tup, may20]; done) | (simp_all [tup, may20]; omega) | (simp_all [tup, may20]; rw [Bool.eq_iff_iff]; simp_all <;> omega)
theorem may_of (c : Cf) (u : Un) : mayU c u = (decide (u.k ≠ 0) && may20 c u && decide (0 ≤ u.f) && decide (u.f < c.fr)) := by
  rw [Bool.eq_iff_iff]
  simp only [mayU, may20, decide_eq_true_eq, Bool.and_eq_true, ne_eq]
  omega
theorem pf95 (c : Cf) (u : Un) : PF Try.prog 95 [.agg c.cells, .agg u.cells] (fun r => r = .bool (mayU c u)) := by
  refine pf_of_w0 Try.func95 (c := _) rfl rfl (Nat.le_of_ble_eq_true rfl) (args_cu c u) ?_
  rw [show Try.f95.ntmps = 25 from rfl]
  have tE := And.intro (@upd_upd AV) <| And.intro (@upd_upd (Option Blk)) <| And.intro Cf.cells.eq_1 <| And.intro Un.cells.eq_1 <| And.intro byteRows_len <| And.intro ty3 <| And.intro ty5 <| And.intro ty23 <| And.intro ty56 <| And.intro ty58 <| Try.results95; repeat' first | ((with_reducible first | apply w_seq | apply w_region | apply wl_nil | apply wr_nil | apply wr_nilA | apply wr_nilE | apply go_normal | apply go_ret | apply go_exit | apply blk_normal | apply blk_ret | apply blk_here | apply w_block | apply w_skip | apply w_exit | apply w_label)) | ((with_reducible first | apply wz (tok Try.prog) | apply wr_z (tok Try.prog)); exact zZ; decide) | ((with_reducible first | apply wzg (tok Try.prog) | apply wr_zg (tok Try.prog)); exact zU; exact zL; exact zU; exact zZ; decide) | ((with_reducible first | apply wskip' | apply wr_skip); exact zU; exact zL; exact zU; decide) | ((with_reducible first | apply wcallg' | apply wr_callg); exact zU; exact zL; exact zU; exact zV; exact zVs; exact zAs; (focus (with_unfolding_all first | exact pf103 c u)); decide) | ((with_reducible first | apply wsplit | apply wr_split); exact zU; exact zL; constructor <;> intro _) | ((with_reducible apply w_ret); (repeat (with_reducible first | apply go_ret | apply blk_ret)); (with_reducible apply done_ret (tok Try.prog)); exact zT; exact zD; exact zX) | fail
  all_goals try clear tE
  all_goals first | (simp_all [tup, may_of]; done) | (simp_all [tup, may_of]; omega)
theorem pf92 (c : Cf) (u : Un) : PF Try.prog 92 [.agg u.cells, .vptr c.cells] (fun r => r = .bool !(mayU c u)) := by
  refine pf_of_w0 Try.func92 (c := _) rfl rfl (Nat.le_of_ble_eq_true rfl) (fun x hx => by
    simp only [List.mem_cons, List.not_mem_nil, or_false] at hx
    rcases hx with rfl | rfl
    · exact .agg (un_pur u)
    · exact .vptr (cells_pur c)) ?_
  rw [show Try.f92.ntmps = 8 from rfl]
  have tE := And.intro (@upd_upd AV) <| And.intro (@upd_upd (Option Blk)) <| And.intro Cf.cells.eq_1 <| And.intro Un.cells.eq_1 <| And.intro ty3 <| And.intro ty4 <| And.intro ty5 <| And.intro ty23 <| And.intro ty56 <| And.intro ty58 <| Try.results92; repeat' first | ((with_reducible first | apply w_seq | apply w_region | apply wl_nil | apply wr_nil | apply wr_nilA | apply wr_nilE | apply go_normal | apply go_ret | apply go_exit | apply blk_normal | apply blk_ret | apply blk_here | apply w_block | apply w_skip | apply w_exit | apply w_label)) | ((with_reducible first | apply wz (tok Try.prog) | apply wr_z (tok Try.prog)); exact zZ; decide) | ((with_reducible first | apply wcall' | apply wr_call); exact zV; exact zVs; exact zAs; (focus (with_unfolding_all first | exact pf93 c u)); decide) | ((with_reducible apply w_ret); (repeat (with_reducible first | apply go_ret | apply blk_ret)); (with_reducible apply done_ret (tok Try.prog)); exact zT; exact zD; exact zX) | fail
  all_goals try clear tE
  rfl
/-- Where the first one is that a test takes; -1: there is none. -/
def fidx {α : Type} (P : α → Bool) : List α → Nat → Int
  | [], _ => -1
  | x :: r, i => if P x = true then (i : Int) else fidx P r (i + 1)
theorem fidx_any {α : Type} (P : α → Bool) : ∀ (l : List α) (i : Nat), (fidx P l i ≥ 0) = (l.any P = true)
  | [], i => by simp [fidx]
  | x :: r, i => by
    cases h : P x with
    | true => simp [fidx, h]
    | false => simp only [fidx, h]; rw [if_neg (by simp), fidx_any P r (i + 1)]; simp [h]
theorem pf102 (l : List Un) (g : FuncId) (cap : List AV) (T : Un → Bool) (hl : l.length ≤ 1000000) (hcap : ∀ x, x ∈ cap → Pur x) (hg : ∀ u, u ∈ l → PF Try.prog g (.agg u.cells :: cap) (fun r => r = .bool (T u))) :
    PF Try.prog 102 [.view (unRows l), .func (.func g) [] cap] (fun r => r = .int .i64 (fidx T l 0)) := by
  have hfp : Pur (.func (.func g) [] cap) := .func (fun x hx => by cases hx) hcap
  refine pf_of_w0 Try.func102 (c := _) rfl rfl (Nat.le_of_ble_eq_true rfl) (fun x hx => by
    simp only [List.mem_cons, List.not_mem_nil, or_false] at hx
    rcases hx with rfl | rfl
    · exact unRows_pur l
    · exact hfp) ?_
  rw [show Try.f102.ntmps = 19 from rfl]
  have tE := And.intro (@upd_upd AV) <| And.intro (@upd_upd (Option Blk)) <| And.intro unRows_len <| And.intro ty3 <| And.intro ty5 <| And.intro ty55 <| And.intro ty56 <| And.intro ty58 <| Try.results102; repeat' first | ((with_reducible first | apply w_seq | apply w_region | apply wl_nil | apply wr_nil | apply wr_nilA | apply wr_nilE | apply go_normal | apply go_ret | apply go_exit | apply blk_normal | apply blk_ret | apply blk_here | apply w_block | apply w_skip | apply w_exit | apply w_label)) | ((with_reducible first | apply wz (tok Try.prog) | apply wr_z (tok Try.prog)); exact zZ; decide) | fail
  all_goals try clear tE
  refine w_loopS (S := Nat) (fun i => [(0, .view (unRows l)), (1, .func (.func g) [] cap), (7, .int .i64 (l.length : Int)), (8, .int .i64 (i : Int))]) (fun _ => []) [] (fun i => i ≤ l.length ∧ fidx T l 0 = fidx T (l.drop i) i) (fun i => l.length - i) 0 ?_ ⟨Nat.zero_le _, rfl⟩ ?_
  · (have tu0 : Pur _ := unRows_pur l; have tu1 : Pur _ := hfp; have tE := And.intro (@upd_upd AV) <| @upd_upd (Option Blk); exact kcanS [])
  · rintro i ⟨hi, hix⟩
    simp only [St.ofS, List.length_nil]
    have hw : IntKind.i64.wrap ((i : Int) + 1) = ((i + 1 : Nat) : Int) := by rw [wrap64 (by omega) (by omega)]; rfl
    by_cases e : i < l.length
    · have h1 : ((i : Int) < (l.length : Int)) = True := by simp; omega
      have h0 : (0 ≤ (i : Int)) = True := by simp
      obtain ⟨u, hu⟩ : ∃ u, l[i]? = some u := ⟨l[i], List.getElem?_eq_getElem e⟩
      have hr := un_row hu
      have hd : l.drop i = u :: l.drop (i + 1) := by rw [List.drop_eq_getElem_cons e]; rw [List.getElem?_eq_getElem e] at hu; cases hu; rfl
      rw [hd] at hix
      cases ht : T u with
      | true =>
        have tE := And.intro (@upd_upd AV) <| And.intro (@upd_upd (Option Blk)) <| And.intro h1 <| And.intro h0 <| And.intro hr <| And.intro hw <| And.intro ht <| And.intro unRows_len <| And.intro ty3 <| And.intro ty5 <| And.intro ty55 <| And.intro ty56 <| And.intro ty58 <| Try.results102; repeat' first | ((with_reducible first | apply w_seq | apply w_region | apply wl_nil | apply wr_nil | apply wr_nilA | apply wr_nilE | apply go_normal | apply go_ret | apply go_exit | apply blk_normal | apply blk_ret | apply blk_here | apply w_block | apply w_skip | apply w_exit | apply w_label)) | ((with_reducible first | apply wz (tok Try.prog) | apply wr_z (tok Try.prog)); exact zZ; decide) | ((with_reducible first | apply wcall' | apply wr_call); exact zV; exact zVs; exact zAs; (focus (with_unfolding_all first | exact hg u (List.mem_of_getElem? hu))); decide) | ((with_reducible first | apply w_ift'); exact zV; exact zU) | ((with_reducible apply w_ret); (repeat (with_reducible first | apply go_ret | apply blk_ret)); (with_reducible apply done_ret (tok Try.prog)); exact zT; exact zD; exact zX) | fail
        all_goals try clear tE
        simp [tup, hix, fidx, ht]
      | false =>
        have tE := And.intro (@upd_upd AV) <| And.intro (@upd_upd (Option Blk)) <| And.intro h1 <| And.intro h0 <| And.intro hr <| And.intro hw <| And.intro ht <| And.intro unRows_len <| And.intro ty3 <| And.intro ty5 <| And.intro ty55 <| And.intro ty56 <| And.intro ty58 <| Try.results102; repeat' first | ((with_reducible first | apply w_seq | apply w_region | apply wl_nil | apply wr_nil | apply wr_nilA | apply wr_nilE | apply go_normal | apply go_ret | apply go_exit | apply blk_normal | apply blk_ret | apply blk_here | apply w_block | apply w_skip | apply w_exit | apply w_label)) | ((with_reducible first | apply wz (tok Try.prog) | apply wr_z (tok Try.prog)); exact zZ; decide) | ((with_reducible first | apply wcall' | apply wr_call); exact zV; exact zVs; exact zAs; (focus (with_unfolding_all first | exact hg u (List.mem_of_getElem? hu))); decide) | ((with_reducible first | apply w_ift'); exact zV; exact zU) | ((with_reducible first | apply w_iff'); exact zV; exact zU) | fail
        all_goals try clear tE
        refine ⟨i + 1, by omega, ⟨by omega, by rw [hix]; simp [fidx, ht]⟩, ?_⟩
        (have tu0 : Pur _ := unRows_pur l; have tu1 : Pur _ := hfp; have tE := And.intro (@upd_upd AV) <| @upd_upd (Option Blk); exact kcanS [])
    · have h1 : ((i : Int) < (l.length : Int)) = False := by simp; omega
      have hd : l.drop i = [] := List.drop_eq_nil_iff.2 (by omega)
      rw [hd] at hix
      have tE := And.intro (@upd_upd AV) <| And.intro (@upd_upd (Option Blk)) <| And.intro h1 <| And.intro ty3 <| And.intro ty5 <| And.intro ty55 <| And.intro ty56 <| And.intro ty58 <| Try.results102; repeat' first | ((with_reducible first | apply w_seq | apply w_region | apply wl_nil | apply wr_nil | apply wr_nilA | apply wr_nilE | apply go_normal | apply go_ret | apply go_exit | apply blk_normal | apply blk_ret | apply blk_here | apply w_block | apply w_skip | apply w_exit | apply w_label)) | ((with_reducible first | apply wz (tok Try.prog) | apply wr_z (tok Try.prog)); exact zZ; decide) | ((with_reducible first | apply w_iff'); exact zV; exact zU) | ((with_reducible apply w_ret); (repeat (with_reducible first | apply go_ret | apply blk_ret)); (with_reducible apply done_ret (tok Try.prog)); exact zT; exact zD; exact zX) | fail
      all_goals try clear tE
      rw [hix]; rfl
theorem pf91 (l : List Un) (g : FuncId) (cap : List AV) (T : Un → Bool) (hl : l.length ≤ 1000000) (hcap : ∀ x, x ∈ cap → Pur x) (hg : ∀ u, u ∈ l → PF Try.prog g (.agg u.cells :: cap) (fun r => r = .bool (T u))) :
    PF Try.prog 91 [.view (unRows l), .func (.func g) [] cap] (fun r => r = .bool (l.any T)) := by
  have hfp : Pur (.func (.func g) [] cap) := .func (fun x hx => by cases hx) hcap
  refine pf_of_w0 Try.func91 (c := _) rfl rfl (Nat.le_of_ble_eq_true rfl) (fun x hx => by
    simp only [List.mem_cons, List.not_mem_nil, or_false] at hx
    rcases hx with rfl | rfl
    · exact unRows_pur l
    · exact hfp) ?_
  rw [show Try.f91.ntmps = 9 from rfl]
  have hany := fidx_any T l 0
  have tE := And.intro (@upd_upd AV) <| And.intro (@upd_upd (Option Blk)) <| And.intro hany <| And.intro ty3 <| Try.results91; repeat' first | ((with_reducible first | apply w_seq | apply w_region | apply wl_nil | apply wr_nil | apply wr_nilA | apply wr_nilE | apply go_normal | apply go_ret | apply go_exit | apply blk_normal | apply blk_ret | apply blk_here | apply w_block | apply w_skip | apply w_exit | apply w_label)) | ((with_reducible first | apply wz (tok Try.prog) | apply wr_z (tok Try.prog)); exact zZ; decide) | ((with_reducible first | apply wcall' | apply wr_call); exact zV; exact zVs; exact zAs; (focus (with_unfolding_all first | exact pf102 l g cap T hl hcap hg)); decide) | ((with_reducible apply w_ret); (repeat (with_reducible first | apply go_ret | apply blk_ret)); (with_reducible apply done_ret (tok Try.prog)); exact zT; exact zD; exact zX) | fail
  all_goals try clear tE
  simp only [tup, Bool.decide_eq_true]
theorem pf62 (c : Cf) (l : List Un) (hl : l.length ≤ 1000000) : PF Try.prog 62 [.agg c.cells, .view (unRows l)] (fun r => r = .bool (l.any fun u => !mayU c u)) := by
  refine pf_of_w0 Try.func62 (c := _) rfl rfl (Nat.le_of_ble_eq_true rfl) (fun x hx => by
    simp only [List.mem_cons, List.not_mem_nil, or_false] at hx
    rcases hx with rfl | rfl
    · exact .agg (cells_pur c)
    · exact unRows_pur l) ?_
  rw [show Try.f62.ntmps = 8 from rfl]
  have hs := pf91 l 92 [.vptr c.cells] (fun u => !mayU c u) hl (fun x hx => by rcases List.mem_singleton.1 hx with rfl; exact .vptr (cells_pur c)) (fun u _ => pf92 c u)
  have tE := And.intro (@upd_upd AV) <| And.intro (@upd_upd (Option Blk)) <| And.intro Cf.cells.eq_1 <| And.intro ty3 <| And.intro ty23 <| Try.results62; repeat' first | ((with_reducible first | apply w_seq | apply w_region | apply wl_nil | apply wr_nil | apply wr_nilA | apply wr_nilE | apply go_normal | apply go_ret | apply go_exit | apply blk_normal | apply blk_ret | apply blk_here | apply w_block | apply w_skip | apply w_exit | apply w_label)) | ((with_reducible first | apply wz (tok Try.prog) | apply wr_z (tok Try.prog)); exact zZ; decide) | ((with_reducible first | apply wcall' | apply wr_call); exact zV; exact zVs; exact zAs; (focus (with_unfolding_all first | exact hs)); decide) | ((with_reducible apply w_ret); (repeat (with_reducible first | apply go_ret | apply blk_ret)); (with_reducible apply done_ret (tok Try.prog)); exact zT; exact zD; exact zX) | fail
  all_goals try clear tE
  rfl
end Go.Proofs.Ytclldbeefbbdlaa
