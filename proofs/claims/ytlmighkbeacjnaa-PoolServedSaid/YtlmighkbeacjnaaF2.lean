/- Frames: pinned, may they be, where one is. -/
import Derived.Test.YtlmighkbeacjnaaF1
open Go Go.Lg
set_option linter.unusedSimpArgs false
set_option linter.unusedVariables false
set_option maxHeartbeats 4000000
namespace Go.Proofs.Ytlmighkbeacjnaa
theorem args_1 {a : AV} (ha : Pur a) : ∀ x, x ∈ [a] → Pur x := fun x hx => by rcases List.mem_singleton.1 hx with rfl; exact ha
theorem args_2 {a b : AV} (ha : Pur a) (hb : Pur b) : ∀ x, x ∈ [a, b] → Pur x := fun x hx => by
  simp only [List.mem_cons, List.not_mem_nil, or_false] at hx
  rcases hx with rfl | rfl
  · exact ha
  · exact hb
theorem args_3 {a b c : AV} (ha : Pur a) (hb : Pur b) (hc : Pur c) : ∀ x, x ∈ [a, b, c] → Pur x := fun x hx => by
  simp only [List.mem_cons, List.not_mem_nil, or_false] at hx
  rcases hx with rfl | rfl | rfl
  · exact ha
  · exact hb
  · exact hc
theorem cf_pur (c : Cf) : Pur (.agg c.cells) := .agg (cells_pur c)
theorem fra_pur (x : Fr) : Pur (.agg x.cells) := .agg (fr_pur x)
theorem fsa_pur (f : Fs) : Pur (.agg f.cells) := .agg (fs_pur f)
theorem pf87 (n : Int) : PF Try.prog 87 [.int .i64 n] (fun r => r = .bool (decide (n > 0))) := by
  refine pf_of_w0 Try.func87 (c := _) rfl rfl (Nat.le_of_ble_eq_true rfl) (args_1 (.int _ _)) ?_
  rw [show Try.f87.ntmps = 5 from rfl]
  have tE := And.intro (@upd_upd AV) <| And.intro (@upd_upd (Option Blk)) <| And.intro ty3 <| Try.results87; repeat' first | ((with_reducible first | apply w_seq | apply w_region | apply wl_nil | apply wr_nil | apply wr_nilA | apply wr_nilE | apply go_normal | apply go_ret | apply go_exit | apply blk_normal | apply blk_ret | apply blk_here | apply w_block | apply w_skip | apply w_exit | apply w_label)) | ((with_reducible first | apply wz (tok Try.prog) | apply wr_z (tok Try.prog)); exact zZ; decide) | ((with_reducible apply w_ret); (repeat (with_reducible first | apply go_ret | apply blk_ret)); (with_reducible apply done_ret (tok Try.prog)); exact zT; exact zD; exact zX) | fail
  all_goals try clear tE
  rfl
theorem pf85 (n : Int) : PF Try.prog 85 [.int .i64 n] (fun r => r = .bool (decide (n < 0 ∨ n > 8))) := by
  refine pf_of_w0 Try.func85 (c := _) rfl rfl (Nat.le_of_ble_eq_true rfl) (args_1 (.int _ _)) ?_
  rw [show Try.f85.ntmps = 9 from rfl]
  have tE := And.intro (@upd_upd AV) <| And.intro (@upd_upd (Option Blk)) <| And.intro ty3 <| Try.results85; repeat' first | ((with_reducible first | apply w_seq | apply w_region | apply wl_nil | apply wr_nil | apply wr_nilA | apply wr_nilE | apply go_normal | apply go_ret | apply go_exit | apply blk_normal | apply blk_ret | apply blk_here | apply w_block | apply w_skip | apply w_exit | apply w_label)) | ((with_reducible first | apply wz (tok Try.prog) | apply wr_z (tok Try.prog)); exact zZ; decide) | ((with_reducible first | apply wzg (tok Try.prog) | apply wr_zg (tok Try.prog)); exact zU; exact zL; exact zU; exact zZ; decide) | ((with_reducible first | apply wskip' | apply wr_skip); exact zU; exact zL; exact zU; decide) | ((with_reducible first | apply wsplit | apply wr_split); exact zU; exact zL; constructor <;> intro _) | ((with_reducible apply w_ret); (repeat (with_reducible first | apply go_ret | apply blk_ret)); (with_reducible apply done_ret (tok Try.prog)); exact zT; exact zD; exact zX) | fail
  all_goals try clear tE
  all_goals first | (simp_all [tup]; done) | (simp_all [tup]; omega)
theorem pf99 (l : List Int) (g : FuncId) (cap : List AV) (T : Int → Bool) (hl : l.length ≤ 1000000) (hcap : ∀ x, x ∈ cap → Pur x) (hg : ∀ u, u ∈ l → PF Try.prog g (.int .i64 u :: cap) (fun r => r = .bool (T u))) :
    PF Try.prog 99 [.view (intRows l), .func (.func g) [] cap] (fun r => r = .int .i64 (fidx T l 0)) := by
  have hfp : Pur (.func (.func g) [] cap) := .func (fun x hx => by cases hx) hcap
  refine pf_of_w0 Try.func99 (c := _) rfl rfl (Nat.le_of_ble_eq_true rfl) (fun x hx => by
    simp only [List.mem_cons, List.not_mem_nil, or_false] at hx
    rcases hx with rfl | rfl
    · exact intRows_pur l
    · exact hfp) ?_
  rw [show Try.f99.ntmps = 19 from rfl]
  have tE := And.intro (@upd_upd AV) <| And.intro (@upd_upd (Option Blk)) <| And.intro intRows_len <| And.intro ty3 <| And.intro ty35 <| Try.results99; repeat' first | ((with_reducible first | apply w_seq | apply w_region | apply wl_nil | apply wr_nil | apply wr_nilA | apply wr_nilE | apply go_normal | apply go_ret | apply go_exit | apply blk_normal | apply blk_ret | apply blk_here | apply w_block | apply w_skip | apply w_exit | apply w_label)) | ((with_reducible first | apply wz (tok Try.prog) | apply wr_z (tok Try.prog)); exact zZ; decide) | fail
  all_goals try clear tE
  refine w_loopS (S := Nat) (fun i => [(0, .view (intRows l)), (1, .func (.func g) [] cap), (7, .int .i64 (l.length : Int)), (8, .int .i64 (i : Int))]) (fun _ => []) [] (fun i => i ≤ l.length ∧ fidx T l 0 = fidx T (l.drop i) i) (fun i => l.length - i) 0 ?_ ⟨Nat.zero_le _, rfl⟩ ?_
  · (have tu0 : Pur _ := intRows_pur l; have tu1 : Pur _ := hfp; have tE := And.intro (@upd_upd AV) <| @upd_upd (Option Blk); exact kcanS [])
  · rintro i ⟨hi, hix⟩
    simp only [St.ofS, List.length_nil]
    have hw : IntKind.i64.wrap ((i : Int) + 1) = ((i + 1 : Nat) : Int) := by rw [wrap64 (by omega) (by omega)]; rfl
    by_cases e : i < l.length
    · have h1 : ((i : Int) < (l.length : Int)) = True := by simp; omega
      have h0 : (0 ≤ (i : Int)) = True := by simp
      obtain ⟨u, hu⟩ : ∃ u, l[i]? = some u := ⟨l[i], List.getElem?_eq_getElem e⟩
      have hr := int_row hu
      have hd : l.drop i = u :: l.drop (i + 1) := by rw [List.drop_eq_getElem_cons e]; rw [List.getElem?_eq_getElem e] at hu; cases hu; rfl
      rw [hd] at hix
      cases ht : T u with
      | true =>
        have tE := And.intro (@upd_upd AV) <| And.intro (@upd_upd (Option Blk)) <| And.intro h1 <| And.intro h0 <| And.intro hr <| And.intro hw <| And.intro ht <| And.intro intRows_len <| And.intro ty3 <| And.intro ty35 <| Try.results99; repeat' first | ((with_reducible first | apply w_seq | apply w_region | apply wl_nil | apply wr_nil | apply wr_nilA | apply wr_nilE | apply go_normal | apply go_ret | apply go_exit | apply blk_normal | apply blk_ret | apply blk_here | apply w_block | apply w_skip | apply w_exit | apply w_label)) | ((with_reducible first | apply wz (tok Try.prog) | apply wr_z (tok Try.prog)); exact zZ; decide) | ((with_reducible first | apply wcall' | apply wr_call); exact zV; exact zVs; exact zAs; (focus (with_unfolding_all first | exact hg u (List.mem_of_getElem? hu))); decide) | ((with_reducible first | apply w_ift'); exact zV; exact zU) | ((with_reducible apply w_ret); (repeat (with_reducible first | apply go_ret | apply blk_ret)); (with_reducible apply done_ret (tok Try.prog)); exact zT; exact zD; exact zX) | fail
        all_goals try clear tE
        simp [tup, hix, fidx, ht]
      | false =>
        have tE := And.intro (@upd_upd AV) <| And.intro (@upd_upd (Option Blk)) <| And.intro h1 <| And.intro h0 <| And.intro hr <| And.intro hw <| And.intro ht <| And.intro intRows_len <| And.intro ty3 <| And.intro ty35 <| Try.results99; repeat' first | ((with_reducible first | apply w_seq | apply w_region | apply wl_nil | apply wr_nil | apply wr_nilA | apply wr_nilE | apply go_normal | apply go_ret | apply go_exit | apply blk_normal | apply blk_ret | apply blk_here | apply w_block | apply w_skip | apply w_exit | apply w_label)) | ((with_reducible first | apply wz (tok Try.prog) | apply wr_z (tok Try.prog)); exact zZ; decide) | ((with_reducible first | apply wcall' | apply wr_call); exact zV; exact zVs; exact zAs; (focus (with_unfolding_all first | exact hg u (List.mem_of_getElem? hu))); decide) | ((with_reducible first | apply w_ift'); exact zV; exact zU) | ((with_reducible first | apply w_iff'); exact zV; exact zU) | fail
        all_goals try clear tE
        refine ⟨i + 1, by omega, ⟨by omega, by rw [hix]; simp [fidx, ht]⟩, ?_⟩
        (have tu0 : Pur _ := intRows_pur l; have tu1 : Pur _ := hfp; have tE := And.intro (@upd_upd AV) <| @upd_upd (Option Blk); exact kcanS [])
    · have h1 : ((i : Int) < (l.length : Int)) = False := by simp; omega
      have hd : l.drop i = [] := List.drop_eq_nil_iff.2 (by omega)
      rw [hd] at hix
      have tE := And.intro (@upd_upd AV) <| And.intro (@upd_upd (Option Blk)) <| And.intro h1 <| And.intro ty3 <| And.intro ty35 <| Try.results99; repeat' first | ((with_reducible first | apply w_seq | apply w_region | apply wl_nil | apply wr_nil | apply wr_nilA | apply wr_nilE | apply go_normal | apply go_ret | apply go_exit | apply blk_normal | apply blk_ret | apply blk_here | apply w_block | apply w_skip | apply w_exit | apply w_label)) | ((with_reducible first | apply wz (tok Try.prog) | apply wr_z (tok Try.prog)); exact zZ; decide) | ((with_reducible first | apply w_iff'); exact zV; exact zU) | ((with_reducible apply w_ret); (repeat (with_reducible first | apply go_ret | apply blk_ret)); (with_reducible apply done_ret (tok Try.prog)); exact zT; exact zD; exact zX) | fail
      all_goals try clear tE
      rw [hix]; rfl
theorem pf84 (l : List Int) (g : FuncId) (cap : List AV) (T : Int → Bool) (hl : l.length ≤ 1000000) (hcap : ∀ x, x ∈ cap → Pur x) (hg : ∀ u, u ∈ l → PF Try.prog g (.int .i64 u :: cap) (fun r => r = .bool (T u))) :
    PF Try.prog 84 [.view (intRows l), .func (.func g) [] cap] (fun r => r = .bool (l.any T)) := by
  have hfp : Pur (.func (.func g) [] cap) := .func (fun x hx => by cases hx) hcap
  refine pf_of_w0 Try.func84 (c := _) rfl rfl (Nat.le_of_ble_eq_true rfl) (fun x hx => by
    simp only [List.mem_cons, List.not_mem_nil, or_false] at hx
    rcases hx with rfl | rfl
    · exact intRows_pur l
    · exact hfp) ?_
  rw [show Try.f84.ntmps = 9 from rfl]
  have hany := fidx_any T l 0
  have tE := And.intro (@upd_upd AV) <| And.intro (@upd_upd (Option Blk)) <| And.intro hany <| And.intro ty3 <| Try.results84; repeat' first | ((with_reducible first | apply w_seq | apply w_region | apply wl_nil | apply wr_nil | apply wr_nilA | apply wr_nilE | apply go_normal | apply go_ret | apply go_exit | apply blk_normal | apply blk_ret | apply blk_here | apply w_block | apply w_skip | apply w_exit | apply w_label)) | ((with_reducible first | apply wz (tok Try.prog) | apply wr_z (tok Try.prog)); exact zZ; decide) | ((with_reducible first | apply wcall' | apply wr_call); exact zV; exact zVs; exact zAs; (focus (with_unfolding_all first | exact pf99 l g cap T hl hcap hg)); decide) | ((with_reducible apply w_ret); (repeat (with_reducible first | apply go_ret | apply blk_ret)); (with_reducible apply done_ret (tok Try.prog)); exact zT; exact zD; exact zX) | fail
  all_goals try clear tE
  simp only [tup, Bool.decide_eq_true]
theorem pf90 (l : List Fr) (g : FuncId) (cap : List AV) (T : Fr → Bool) (hl : l.length ≤ 1000000) (hcap : ∀ x, x ∈ cap → Pur x) (hg : ∀ u, u ∈ l → PF Try.prog g (.agg u.cells :: cap) (fun r => r = .bool (T u))) :
    PF Try.prog 90 [.view (frRows l), .func (.func g) [] cap] (fun r => r = .int .i64 (fidx T l 0)) := by
  have hfp : Pur (.func (.func g) [] cap) := .func (fun x hx => by cases hx) hcap
  refine pf_of_w0 Try.func90 (c := _) rfl rfl (Nat.le_of_ble_eq_true rfl) (fun x hx => by
    simp only [List.mem_cons, List.not_mem_nil, or_false] at hx
    rcases hx with rfl | rfl
    · exact frRows_pur l
    · exact hfp) ?_
  rw [show Try.f90.ntmps = 19 from rfl]
  have tE := And.intro (@upd_upd AV) <| And.intro (@upd_upd (Option Blk)) <| And.intro frRows_len <| And.intro ty3 <| And.intro ty4 <| And.intro ty5 <| And.intro ty24 <| And.intro ty34 <| And.intro ty35 <| And.intro ty37 <| Try.results90; repeat' first | ((with_reducible first | apply w_seq | apply w_region | apply wl_nil | apply wr_nil | apply wr_nilA | apply wr_nilE | apply go_normal | apply go_ret | apply go_exit | apply blk_normal | apply blk_ret | apply blk_here | apply w_block | apply w_skip | apply w_exit | apply w_label)) | ((with_reducible first | apply wz (tok Try.prog) | apply wr_z (tok Try.prog)); exact zZ; decide) | fail
  all_goals try clear tE
  refine w_loopS (S := Nat) (fun i => [(0, .view (frRows l)), (1, .func (.func g) [] cap), (7, .int .i64 (l.length : Int)), (8, .int .i64 (i : Int))]) (fun _ => []) [] (fun i => i ≤ l.length ∧ fidx T l 0 = fidx T (l.drop i) i) (fun i => l.length - i) 0 ?_ ⟨Nat.zero_le _, rfl⟩ ?_
  · (have tu0 : Pur _ := frRows_pur l; have tu1 : Pur _ := hfp; have tE := And.intro (@upd_upd AV) <| @upd_upd (Option Blk); exact kcanS [])
  · rintro i ⟨hi, hix⟩
    simp only [St.ofS, List.length_nil]
    have hw : IntKind.i64.wrap ((i : Int) + 1) = ((i + 1 : Nat) : Int) := by rw [wrap64 (by omega) (by omega)]; rfl
    by_cases e : i < l.length
    · have h1 : ((i : Int) < (l.length : Int)) = True := by simp; omega
      have h0 : (0 ≤ (i : Int)) = True := by simp
      obtain ⟨u, hu⟩ : ∃ u, l[i]? = some u := ⟨l[i], List.getElem?_eq_getElem e⟩
      have hr := fr_row hu
      have hd : l.drop i = u :: l.drop (i + 1) := by rw [List.drop_eq_getElem_cons e]; rw [List.getElem?_eq_getElem e] at hu; cases hu; rfl
      rw [hd] at hix
      cases ht : T u with
      | true =>
        have tE := And.intro (@upd_upd AV) <| And.intro (@upd_upd (Option Blk)) <| And.intro h1 <| And.intro h0 <| And.intro hr <| And.intro hw <| And.intro ht <| And.intro frRows_len <| And.intro ty3 <| And.intro ty4 <| And.intro ty5 <| And.intro ty24 <| And.intro ty34 <| And.intro ty35 <| And.intro ty37 <| Try.results90; repeat' first | ((with_reducible first | apply w_seq | apply w_region | apply wl_nil | apply wr_nil | apply wr_nilA | apply wr_nilE | apply go_normal | apply go_ret | apply go_exit | apply blk_normal | apply blk_ret | apply blk_here | apply w_block | apply w_skip | apply w_exit | apply w_label)) | ((with_reducible first | apply wz (tok Try.prog) | apply wr_z (tok Try.prog)); exact zZ; decide) | ((with_reducible first | apply wcall' | apply wr_call); exact zV; exact zVs; exact zAs; (focus (with_unfolding_all first | exact hg u (List.mem_of_getElem? hu))); decide) | ((with_reducible first | apply w_ift'); exact zV; exact zU) | ((with_reducible apply w_ret); (repeat (with_reducible first | apply go_ret | apply blk_ret)); (with_reducible apply done_ret (tok Try.prog)); exact zT; exact zD; exact zX) | fail
        all_goals try clear tE
        simp [tup, hix, fidx, ht]
      | false =>
        have tE := And.intro (@upd_upd AV) <| And.intro (@upd_upd (Option Blk)) <| And.intro h1 <| And.intro h0 <| And.intro hr <| And.intro hw <| And.intro ht <| And.intro frRows_len <| And.intro ty3 <| And.intro ty4 <| And.intro ty5 <| And.intro ty24 <| And.intro ty34 <| And.intro ty35 <| And.intro ty37 <| Try.results90; repeat' first | ((with_reducible first | apply w_seq | apply w_region | apply wl_nil | apply wr_nil | apply wr_nilA | apply wr_nilE | apply go_normal | apply go_ret | apply go_exit | apply blk_normal | apply blk_ret | apply blk_here | apply w_block | apply w_skip | apply w_exit | apply w_label)) | ((with_reducible first | apply wz (tok Try.prog) | apply wr_z (tok Try.prog)); exact zZ; decide) | ((with_reducible first | apply wcall' | apply wr_call); exact zV; exact zVs; exact zAs; (focus (with_unfolding_all first | exact hg u (List.mem_of_getElem? hu))); decide) | ((with_reducible first | apply w_ift'); exact zV; exact zU) | ((with_reducible first | apply w_iff'); exact zV; exact zU) | fail
        all_goals try clear tE
        refine ⟨i + 1, by omega, ⟨by omega, by rw [hix]; simp [fidx, ht]⟩, ?_⟩
        (have tu0 : Pur _ := frRows_pur l; have tu1 : Pur _ := hfp; have tE := And.intro (@upd_upd AV) <| @upd_upd (Option Blk); exact kcanS [])
    · have h1 : ((i : Int) < (l.length : Int)) = False := by simp; omega
      have hd : l.drop i = [] := List.drop_eq_nil_iff.2 (by omega)
      rw [hd] at hix
      have tE := And.intro (@upd_upd AV) <| And.intro (@upd_upd (Option Blk)) <| And.intro h1 <| And.intro ty3 <| And.intro ty4 <| And.intro ty5 <| And.intro ty24 <| And.intro ty34 <| And.intro ty35 <| And.intro ty37 <| Try.results90; repeat' first | ((with_reducible first | apply w_seq | apply w_region | apply wl_nil | apply wr_nil | apply wr_nilA | apply wr_nilE | apply go_normal | apply go_ret | apply go_exit | apply blk_normal | apply blk_ret | apply blk_here | apply w_block | apply w_skip | apply w_exit | apply w_label)) | ((with_reducible first | apply wz (tok Try.prog) | apply wr_z (tok Try.prog)); exact zZ; decide) | ((with_reducible first | apply w_iff'); exact zV; exact zU) | ((with_reducible apply w_ret); (repeat (with_reducible first | apply go_ret | apply blk_ret)); (with_reducible apply done_ret (tok Try.prog)); exact zT; exact zD; exact zX) | fail
      all_goals try clear tE
      rw [hix]; rfl
theorem any_pinned (x : Fr) : (x.pins.any fun n => decide (n > 0)) = pinned x := rfl
theorem pf49 (x : Fr) (hl : x.pins.length ≤ 1000000) : PF Try.prog 49 [.agg x.cells] (fun r => r = .bool (pinned x)) := by
  refine pf_of_w0 Try.func49 (c := _) rfl rfl (Nat.le_of_ble_eq_true rfl) (args_1 (fra_pur x)) ?_
  rw [show Try.f49.ntmps = 6 from rfl]
  have hs := pf84 x.pins 87 [] (fun n => decide (n > 0)) hl (fun x hx => by cases hx) (fun u _ => pf87 u)
  have tE := And.intro (@upd_upd AV) <| And.intro (@upd_upd (Option Blk)) <| And.intro Fr.cells.eq_1 <| And.intro ty3 <| And.intro ty4 <| And.intro ty5 <| And.intro ty34 <| And.intro ty35 <| And.intro ty37 <| Try.results49; repeat' first | ((with_reducible first | apply w_seq | apply w_region | apply wl_nil | apply wr_nil | apply wr_nilA | apply wr_nilE | apply go_normal | apply go_ret | apply go_exit | apply blk_normal | apply blk_ret | apply blk_here | apply w_block | apply w_skip | apply w_exit | apply w_label)) | ((with_reducible first | apply wz (tok Try.prog) | apply wr_z (tok Try.prog)); exact zZ; decide) | ((with_reducible first | apply wcall' | apply wr_call); exact zV; exact zVs; exact zAs; (focus (with_unfolding_all first | exact hs)); decide) | ((with_reducible apply w_ret); (repeat (with_reducible first | apply go_ret | apply blk_ret)); (with_reducible apply done_ret (tok Try.prog)); exact zT; exact zD; exact zX) | fail
  all_goals try clear tE
  rfl
def wildP (x : Fr) : Bool := x.pins.any fun n => decide (n < 0 ∨ n > 8)
/-- May a frame be? -/
def mayF (c : Cf) (x : Fr) : Bool := decide ((x.pins.length : Int) = c.cl) && !wildP x &&
  bif x.k == 0 then decide (x.p = 0) && decide ((x.d.length : Int) = 0) && !pinned x && !x.rf && !x.dt else
  bif x.k == 1 then decide (0 ≤ x.p ∧ x.p < c.p) && decide ((x.d.length : Int) = 0) && !x.dt && pinned x else
  bif x.k == 2 then decide (0 ≤ x.p ∧ x.p < c.p) && decide ((x.d.length : Int) = c.z) else false
theorem pf47 (c : Cf) (x : Fr) (hl : x.pins.length ≤ 1000000) : PF Try.prog 47 [.agg c.cells, .agg x.cells] (fun r => r = .bool (mayF c x)) := by
  refine pf_of_w0 Try.func47 (c := _) rfl rfl (Nat.le_of_ble_eq_true rfl) (args_2 (cf_pur c) (fra_pur x)) ?_
  rw [show Try.f47.ntmps = 84 from rfl]
  have hs := pf84 x.pins 85 [] (fun n => decide (n < 0 ∨ n > 8)) hl (fun x hx => by cases hx) (fun u _ => pf85 u)
  have h49 := pf49 x hl
  rw [show (x.pins.any fun n => decide (n < 0 ∨ n > 8)) = wildP x from rfl] at hs
  have tE := And.intro (@upd_upd AV) <| And.intro (@upd_upd (Option Blk)) <| And.intro Cf.cells.eq_1 <| And.intro Fr.cells.eq_1 <| And.intro intRows_len <| And.intro byteRows_len <| And.intro ty3 <| And.intro ty4 <| And.intro ty5 <| And.intro ty23 <| And.intro ty34 <| And.intro ty35 <| And.intro ty37 <| Try.results47; repeat' first | ((with_reducible first | apply w_seq | apply w_region | apply wl_nil | apply wr_nil | apply wr_nilA | apply wr_nilE | apply go_normal | apply go_ret | apply go_exit | apply blk_normal | apply blk_ret | apply blk_here | apply w_block | apply w_skip | apply w_exit | apply w_label)) | ((with_reducible first | apply wz (tok Try.prog) | apply wr_z (tok Try.prog)); exact zZ; decide) | ((with_reducible first | apply wzg (tok Try.prog) | apply wr_zg (tok Try.prog)); exact zU; exact zL; exact zU; exact zZ; decide) | ((with_reducible first | apply wskip' | apply wr_skip); exact zU; exact zL; exact zU; decide) | ((with_reducible first | apply wcallg' | apply wr_callg); exact zU; exact zL; exact zU; exact zV; exact zVs; exact zAs; (focus (with_unfolding_all first | exact hs | exact h49)); decide) | ((with_reducible first | apply wsplit | apply wr_split); exact zU; exact zL; constructor <;> intro _) | ((with_reducible first | apply w_ift'); exact zV; exact zU) | ((with_reducible first | apply w_if); exact zV; constructor <;> intro _) | ((with_reducible apply w_ret); (repeat (with_reducible first | apply go_ret | apply blk_ret)); (with_reducible apply done_ret (tok Try.prog)); exact zT; exact zD; exact zX) | fail
  all_goals try clear tE
  all_goals first | (simp_all [tup, mayF]; done) | (simp_all [tup, mayF]; omega) | (simp_all [tup, mayF]; rw [Bool.eq_iff_iff]; simp_all <;> omega)
def isAt (p : Int) (x : Fr) : Bool := decide (x.k ≠ 0 ∧ x.p = p)
theorem pf91 (x : Fr) (p : Int) : PF Try.prog 91 [.agg x.cells, .vptr [.int .i64 p]] (fun r => r = .bool (isAt p x)) := by
  refine pf_of_w0 Try.func91 (c := _) rfl rfl (Nat.le_of_ble_eq_true rfl) (args_2 (fra_pur x) (.vptr (args_1 (.int _ _)))) ?_
  rw [show Try.f91.ntmps = 13 from rfl]
  have tE := And.intro (@upd_upd AV) <| And.intro (@upd_upd (Option Blk)) <| And.intro Fr.cells.eq_1 <| And.intro ty3 <| And.intro ty4 <| And.intro ty5 <| And.intro ty34 <| And.intro ty35 <| And.intro ty37 <| Try.results91; repeat' first | ((with_reducible first | apply w_seq | apply w_region | apply wl_nil | apply wr_nil | apply wr_nilA | apply wr_nilE | apply go_normal | apply go_ret | apply go_exit | apply blk_normal | apply blk_ret | apply blk_here | apply w_block | apply w_skip | apply w_exit | apply w_label)) | ((with_reducible first | apply wz (tok Try.prog) | apply wr_z (tok Try.prog)); exact zZ; decide) | ((with_reducible first | apply wzg (tok Try.prog) | apply wr_zg (tok Try.prog)); exact zU; exact zL; exact zU; exact zZ; decide) | ((with_reducible first | apply wskip' | apply wr_skip); exact zU; exact zL; exact zU; decide) | ((with_reducible first | apply wsplit | apply wr_split); exact zU; exact zL; constructor <;> intro _) | ((with_reducible apply w_ret); (repeat (with_reducible first | apply go_ret | apply blk_ret)); (with_reducible apply done_ret (tok Try.prog)); exact zT; exact zD; exact zX) | fail
  all_goals try clear tE
  all_goals first | (simp_all [tup, isAt]; done) | (simp_all [tup, isAt]; omega) | (simp_all [tup, isAt]; rw [Bool.eq_iff_iff]; simp_all <;> omega)
theorem pf58 (f : Fs) (p : Int) (hl : f.l.length ≤ 1000000) : PF Try.prog 58 [.agg f.cells, .int .i64 p] (fun r => r = .int .i64 (fidx (isAt p) f.l 0)) := by
  refine pf_of_w0 Try.func58 (c := _) rfl rfl (Nat.le_of_ble_eq_true rfl) (args_2 (fsa_pur f) (.int _ _)) ?_
  rw [show Try.f58.ntmps = 9 from rfl]
  have hs := pf90 f.l 91 [.vptr [.int .i64 p]] (isAt p) hl (args_1 (.vptr (args_1 (.int _ _)))) (fun u _ => pf91 u p)
  have tE := And.intro (@upd_upd AV) <| And.intro (@upd_upd (Option Blk)) <| And.intro Fs.cells.eq_1 <| And.intro ty3 <| And.intro ty4 <| And.intro ty5 <| And.intro ty24 <| And.intro ty26 <| And.intro ty34 <| And.intro ty35 <| And.intro ty37 <| Try.results58; repeat' first | ((with_reducible first | apply w_seq | apply w_region | apply wl_nil | apply wr_nil | apply wr_nilA | apply wr_nilE | apply go_normal | apply go_ret | apply go_exit | apply blk_normal | apply blk_ret | apply blk_here | apply w_block | apply w_skip | apply w_exit | apply w_label)) | ((with_reducible first | apply wz (tok Try.prog) | apply wr_z (tok Try.prog)); exact zZ; decide) | ((with_reducible first | apply wcall' | apply wr_call); exact zV; exact zVs; exact zAs; (focus (with_unfolding_all first | exact hs)); decide) | ((with_reducible apply w_ret); (repeat (with_reducible first | apply go_ret | apply blk_ret)); (with_reducible apply done_ret (tok Try.prog)); exact zT; exact zD; exact zX) | fail
  all_goals try clear tE
  rfl
theorem pf50 (x : Fr) (hl : x.pins.length ≤ 1000000) : PF Try.prog 50 [.agg x.cells] (fun r => r = .bool (pinned x)) := by
  refine pf_of_w0 Try.func50 (c := _) rfl rfl (Nat.le_of_ble_eq_true rfl) (args_1 (fra_pur x)) ?_
  rw [show Try.f50.ntmps = 17 from rfl]
  have tE := And.intro (@upd_upd AV) <| And.intro (@upd_upd (Option Blk)) <| And.intro Fr.cells.eq_1 <| And.intro intRows_len <| And.intro ty3 <| And.intro ty4 <| And.intro ty5 <| And.intro ty34 <| And.intro ty35 <| And.intro ty37 <| Try.results50; repeat' first | ((with_reducible first | apply w_seq | apply w_region | apply wl_nil | apply wr_nil | apply wr_nilA | apply wr_nilE | apply go_normal | apply go_ret | apply go_exit | apply blk_normal | apply blk_ret | apply blk_here | apply w_block | apply w_skip | apply w_exit | apply w_label)) | ((with_reducible first | apply wz (tok Try.prog) | apply wr_z (tok Try.prog)); exact zZ; decide) | fail
  all_goals try clear tE
  refine w_loopS (S := Nat) (fun i => [(1, .vptr x.cells), (3, .int .i64 (i : Int))]) (fun _ => []) [] (fun i => i ≤ x.pins.length ∧ pinned x = (x.pins.drop i).any fun n => decide (n > 0)) (fun i => x.pins.length - i) 0 ?_ ⟨Nat.zero_le _, rfl⟩ ?_
  · (have tu0 : Pur _ := .vptr (fr_pur x); have tE := And.intro (@upd_upd AV) <| @upd_upd (Option Blk); exact kcanS [])
  · rintro i ⟨hi, hix⟩
    simp only [St.ofS, List.length_nil]
    have hw : IntKind.i64.wrap ((i : Int) + 1) = ((i + 1 : Nat) : Int) := by rw [wrap64 (by omega) (by omega)]; rfl
    by_cases e : i < x.pins.length
    · have h1 : ((i : Int) < (x.pins.length : Int)) = True := by simp; omega
      have h0 : (0 ≤ (i : Int)) = True := by simp
      obtain ⟨u, hu⟩ : ∃ u, x.pins[i]? = some u := ⟨x.pins[i], List.getElem?_eq_getElem e⟩
      have hr := int_row hu
      have hd : x.pins.drop i = u :: x.pins.drop (i + 1) := by rw [List.drop_eq_getElem_cons e]; rw [List.getElem?_eq_getElem e] at hu; cases hu; rfl
      rw [hd, List.any_cons] at hix
      by_cases hb : u > 0
      · have hb' : (u > 0) = True := eq_true hb
        have tE := And.intro (@upd_upd AV) <| And.intro (@upd_upd (Option Blk)) <| And.intro h1 <| And.intro h0 <| And.intro hr <| And.intro hw <| And.intro hb' <| And.intro Fr.cells.eq_1 <| And.intro intRows_len <| And.intro ty3 <| And.intro ty4 <| And.intro ty5 <| And.intro ty34 <| And.intro ty35 <| And.intro ty37 <| Try.results50; repeat' first | ((with_reducible first | apply w_seq | apply w_region | apply wl_nil | apply wr_nil | apply wr_nilA | apply wr_nilE | apply go_normal | apply go_ret | apply go_exit | apply blk_normal | apply blk_ret | apply blk_here | apply w_block | apply w_skip | apply w_exit | apply w_label)) | ((with_reducible first | apply wz (tok Try.prog) | apply wr_z (tok Try.prog)); exact zZ; decide) | ((with_reducible first | apply w_ift'); exact zV; exact zU) | ((with_reducible apply w_ret); (repeat (with_reducible first | apply go_ret | apply blk_ret)); (with_reducible apply done_ret (tok Try.prog)); exact zT; exact zD; exact zX) | fail
        all_goals try clear tE
        simp [tup, hix, hb]
      · have hb' : (u > 0) = False := eq_false hb
        have tE := And.intro (@upd_upd AV) <| And.intro (@upd_upd (Option Blk)) <| And.intro h1 <| And.intro h0 <| And.intro hr <| And.intro hw <| And.intro hb' <| And.intro Fr.cells.eq_1 <| And.intro intRows_len <| And.intro ty3 <| And.intro ty4 <| And.intro ty5 <| And.intro ty34 <| And.intro ty35 <| And.intro ty37 <| Try.results50; repeat' first | ((with_reducible first | apply w_seq | apply w_region | apply wl_nil | apply wr_nil | apply wr_nilA | apply wr_nilE | apply go_normal | apply go_ret | apply go_exit | apply blk_normal | apply blk_ret | apply blk_here | apply w_block | apply w_skip | apply w_exit | apply w_label)) | ((with_reducible first | apply wz (tok Try.prog) | apply wr_z (tok Try.prog)); exact zZ; decide) | ((with_reducible first | apply w_ift'); exact zV; exact zU) | ((with_reducible first | apply w_iff'); exact zV; exact zU) | fail
        all_goals try clear tE
        refine ⟨i + 1, by omega, ⟨by omega, by rw [hix]; simp [hb]⟩, ?_⟩
        (have tu0 : Pur _ := .vptr (fr_pur x); have tE := And.intro (@upd_upd AV) <| @upd_upd (Option Blk); exact kcanS [])
    · have h1 : ((i : Int) < (x.pins.length : Int)) = False := by simp; omega
      have hd : x.pins.drop i = [] := List.drop_eq_nil_iff.2 (by omega)
      rw [hd] at hix
      have tE := And.intro (@upd_upd AV) <| And.intro (@upd_upd (Option Blk)) <| And.intro h1 <| And.intro Fr.cells.eq_1 <| And.intro intRows_len <| And.intro ty3 <| And.intro ty4 <| And.intro ty5 <| And.intro ty34 <| And.intro ty35 <| And.intro ty37 <| Try.results50; repeat' first | ((with_reducible first | apply w_seq | apply w_region | apply wl_nil | apply wr_nil | apply wr_nilA | apply wr_nilE | apply go_normal | apply go_ret | apply go_exit | apply blk_normal | apply blk_ret | apply blk_here | apply w_block | apply w_skip | apply w_exit | apply w_label)) | ((with_reducible first | apply wz (tok Try.prog) | apply wr_z (tok Try.prog)); exact zZ; decide) | ((with_reducible first | apply w_iff'); exact zV; exact zU) | ((with_reducible apply w_ret); (repeat (with_reducible first | apply go_ret | apply blk_ret)); (with_reducible apply done_ret (tok Try.prog)); exact zT; exact zD; exact zX) | fail
      all_goals try clear tE
      rw [hix]; rfl
def freeF (x : Fr) : Bool := decide (x.k = 0) || decide (x.k = 2) && !pinned x
theorem pf13 (x : Fr) (hl : x.pins.length ≤ 1000000) : PF Try.prog 13 [.agg x.cells] (fun r => r = .bool (freeF x)) := by
  refine pf_of_w0 Try.func13 (c := _) rfl rfl (Nat.le_of_ble_eq_true rfl) (args_1 (fra_pur x)) ?_
  rw [show Try.f13.ntmps = 16 from rfl]
  have tE := And.intro (@upd_upd AV) <| And.intro (@upd_upd (Option Blk)) <| And.intro Fr.cells.eq_1 <| And.intro ty3 <| And.intro ty4 <| And.intro ty5 <| And.intro ty34 <| And.intro ty35 <| And.intro ty37 <| Try.results13; repeat' first | ((with_reducible first | apply w_seq | apply w_region | apply wl_nil | apply wr_nil | apply wr_nilA | apply wr_nilE | apply go_normal | apply go_ret | apply go_exit | apply blk_normal | apply blk_ret | apply blk_here | apply w_block | apply w_skip | apply w_exit | apply w_label)) | ((with_reducible first | apply wz (tok Try.prog) | apply wr_z (tok Try.prog)); exact zZ; decide) | ((with_reducible first | apply wzg (tok Try.prog) | apply wr_zg (tok Try.prog)); exact zU; exact zL; exact zU; exact zZ; decide) | ((with_reducible first | apply wskip' | apply wr_skip); exact zU; exact zL; exact zU; decide) | ((with_reducible first | apply wcallg' | apply wr_callg); exact zU; exact zL; exact zU; exact zV; exact zVs; exact zAs; (focus (with_unfolding_all first | exact pf50 x hl)); decide) | ((with_reducible first | apply wsplit | apply wr_split); exact zU; exact zL; constructor <;> intro _) | ((with_reducible apply w_ret); (repeat (with_reducible first | apply go_ret | apply blk_ret)); (with_reducible apply done_ret (tok Try.prog)); exact zT; exact zD; exact zX) | fail
  all_goals try clear tE
  all_goals (simp_all [tup, freeF])
end Go.Proofs.Ytlmighkbeacjnaa
