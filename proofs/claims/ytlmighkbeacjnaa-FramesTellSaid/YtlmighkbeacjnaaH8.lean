/- Written, and Dirty. -/
import Derived.Test.YtlmighkbeacjnaaH7
open Go Go.Lg
set_option linter.unusedSimpArgs false
set_option linter.unusedVariables false
set_option maxHeartbeats 4000000
set_option maxRecDepth 20000
namespace Go.Proofs.Ytlmighkbeacjnaa
/-- A list of ints that grows: nothing yet, or an own slice. -/
def dsA (ds : List Int) (o : Nat) : AV := match ds with
  | [] => .empty
  | _ :: _ => .slice o 0 ds.length none 1
theorem dsA_own {H : Heap} {ds : List Int} {o : Nat} (h : ds ≠ [] → H o = some (.cells (intRows ds).flatten 3)) : Own H (fun _ => True) (dsA ds o) (.view (intRows ds)) := by
  cases ds with
  | nil => exact .nothing
  | cons d ds => exact own_ints trivial (h (by simp)) (intRows_len _)
structure DsI (ds : List Int) (o : Nat) (H : Heap) (k : Nat) : Prop where
  blk : ds ≠ [] → o < k ∧ H o = some (.cells (intRows ds).flatten 3)
theorem dsI_new {H : Heap} {k : Nat} {x : Int} : DsI [x] k (upd H k (some (.cells [[AV.int .i64 x]].flatten 3))) (k + 1) := ⟨fun _ => ⟨by omega, by rw [upd_same]; rfl⟩⟩
theorem dsI_more {H : Heap} {k : Nat} {x : Int} {ds : List Int} : DsI (ds ++ [x]) k (upd H k (some (.cells ((intRows ds).flatten ++ [[AV.int .i64 x]].flatten) 3))) (k + 1) := ⟨fun _ => ⟨by omega, by rw [upd_same]; simp [intRows]⟩⟩
theorem dsA_one (x : Int) (k : Nat) : dsA [x] k = .slice k 0 1 none 1 := rfl
theorem dsA_more (d x : Int) (ds : List Int) (k : Nat) : dsA (d :: ds ++ [x]) k = .slice k 0 (ds.length + 1 + 1) none 1 := by simp [dsA]
theorem args_2cf {c : Cf} {f : Fs} : ∀ x, x ∈ [AV.agg c.cells, .agg f.cells] → Pur x := args_2 (cf_pur c) (fsa_pur f)
theorem nf80 (f : Fs) (hl : f.l.length ≤ 1000000) : NF Try.prog 80 [.agg f.cells] (fun r => r = .view (intRows (dirtyL f.l 0))) := by
  refine nf_of_w0 Try.func80 (c := _) rfl rfl (Nat.le_of_ble_eq_true rfl) (args_1 (fsa_pur f)) ?_
  rw [show Try.f80.ntmps = 23 from rfl]
  have hfv : Pur (.vptr f.cells) := .vptr (fs_pur f)
  have tE := And.intro (@upd_upd AV) <| And.intro (@upd_upd (Option Blk)) <| And.intro Fs.cells.eq_1 <| And.intro ty3 <| And.intro ty4 <| And.intro ty5 <| And.intro ty24 <| And.intro ty26 <| And.intro ty34 <| And.intro ty35 <| And.intro ty37 <| Try.results80; repeat' first | ((with_reducible first | apply w_seq | apply w_region | apply wl_nil | apply wr_nil | apply wr_nilA | apply wr_nilE | apply go_normal | apply go_ret | apply go_exit | apply blk_normal | apply blk_ret | apply blk_here | apply w_block | apply w_skip | apply w_exit | apply w_label)) | ((with_reducible first | apply wz (tok Try.prog) | apply wr_z (tok Try.prog)); exact zZ; decide) | fail
  all_goals try clear tE
  refine w_loopP (S := Nat × Nat) (fun s => [(1, .vptr f.cells), (3, dsA (dirtyL (f.l.take s.1) 0) s.2), (4, .int .i64 (s.1 : Int))]) [] (fun s H k => s.1 ≤ f.l.length ∧ DsI (dirtyL (f.l.take s.1) 0) s.2 H k) (fun s => f.l.length - s.1) (0, 0) ?_ rfl ?_ ?_
  · (have tE := And.intro (@upd_upd AV) <| And.intro (@upd_upd (Option Blk)) <| And.intro Fs.cells.eq_1 <| And.intro Cf.cells.eq_1 <| And.intro dirtyL.eq_1 <| dsA.eq_1; simp only [fitsT, List.take_zero, List.length_nil, sp_cons, sp_nil, upd_b, Nat.reduceBEq, cond_true, cond_false, args0_zero, args0_succ, args0_nil, tE]; repeat' first | exact trivial | apply And.intro | exact Sub.refl _ | exact Sub.cap)
  · exact ⟨Nat.zero_le _, ⟨fun h => absurd rfl h⟩⟩
  · rintro ⟨i, o⟩ H k ⟨hi, hb⟩
    simp only at hi hb
    have hw : IntKind.i64.wrap ((i : Int) + 1) = ((i + 1 : Nat) : Int) := by rw [wrap64 (by omega) (by omega)]; rfl
    have g0 : (0 ≤ (i : Int)) = True := by simp
    by_cases e : i < f.l.length
    · have g1 : ((i : Int) < (f.l.length : Int)) = True := by simp; omega
      obtain ⟨u, hu⟩ : ∃ u, f.l[i]? = some u := ⟨f.l[i], List.getElem?_eq_getElem e⟩
      have hr := fr_row hu
      have ht := dirtyL_take hu
      cases hdt : u.dt with
      | false =>
        rw [hdt, if_neg (by decide), List.append_nil] at ht
        have tE := And.intro (@upd_upd AV) <| And.intro (@upd_upd (Option Blk)) <| And.intro g1 <| And.intro g0 <| And.intro hr <| And.intro hw <| And.intro hdt <| And.intro Fs.cells.eq_1 <| And.intro Fr.cells.eq_1 <| And.intro frRows_len <| And.intro ty3 <| And.intro ty4 <| And.intro ty5 <| And.intro ty24 <| And.intro ty26 <| And.intro ty34 <| And.intro ty35 <| And.intro ty37 <| Try.results80; repeat' first | ((with_reducible first | apply w_seq | apply w_region | apply wl_nil | apply wr_nil | apply wr_nilA | apply wr_nilE | apply go_normal | apply go_ret | apply go_exit | apply blk_normal | apply blk_ret | apply blk_here | apply w_block | apply w_skip | apply w_exit | apply w_label)) | ((with_reducible first | apply wz (tok Try.prog) | apply wr_z (tok Try.prog)); exact zZ; decide) | ((with_reducible first | apply w_ift'); exact zV; exact zU) | ((with_reducible first | apply w_iff'); exact zV; exact zU) | fail
        all_goals try clear tE
        refine ⟨(i + 1, o), by simp only; omega, ⟨by simp only; omega, by rw [ht]; exact hb⟩, rfl, ?_⟩
        (have tE := And.intro (@upd_upd AV) <| And.intro (@upd_upd (Option Blk)) <| And.intro hw <| And.intro ht <| And.intro Fs.cells.eq_1 <| Cf.cells.eq_1; simp only [fitsT, List.take_zero, List.length_nil, sp_cons, sp_nil, upd_b, Nat.reduceBEq, cond_true, cond_false, args0_zero, args0_succ, args0_nil, tE]; repeat' first | exact trivial | apply And.intro | exact Sub.refl _ | exact Sub.cap)
      | true =>
        rw [hdt, if_pos rfl] at ht
        have hbd := dirtyL_len (f.l.take i) 0
        rw [List.length_take] at hbd
        generalize dirtyL (f.l.take i) 0 = ds at hb ht hbd
        cases ds with
        | nil =>
          have tE := And.intro (@upd_upd AV) <| And.intro (@upd_upd (Option Blk)) <| And.intro g1 <| And.intro g0 <| And.intro hr <| And.intro hw <| And.intro hdt <| And.intro dsA.eq_1 <| And.intro Fs.cells.eq_1 <| And.intro Fr.cells.eq_1 <| And.intro frRows_len <| And.intro ty3 <| And.intro ty4 <| And.intro ty5 <| And.intro ty24 <| And.intro ty26 <| And.intro ty34 <| And.intro ty35 <| And.intro ty37 <| Try.results80; repeat' first | ((with_reducible first | apply w_seq | apply w_region | apply wl_nil | apply wr_nil | apply wr_nilA | apply wr_nilE | apply go_normal | apply go_ret | apply go_exit | apply blk_normal | apply blk_ret | apply blk_here | apply w_block | apply w_skip | apply w_exit | apply w_label)) | ((with_reducible first | apply wz (tok Try.prog) | apply wr_z (tok Try.prog)); exact zZ; decide) | ((with_reducible first | apply w_ap | apply wr_ap); (focus (first | (intro _ ho _ hr _; (with_reducible apply ap_new (tok Try.prog) ho (hr := hr)); exact zT; exact zU; exact zT; exact zT; exact zU; exact zA; exact zV; exact zK; exact zM; exact zK; exact zK; decide) | (intro _ ho _ hr _; (with_reducible apply ap_own (tok Try.prog) ho (hr := hr)); exact zT; exact zU; exact zT; exact zT; exact zU; exact zV; exact zV; exact zH; exact zKo; exact zM; (focus (first | rfl | assumption)); exact zKo; exact zKo; decide))); decide) | ((with_reducible first | apply wp | apply wr_p); (focus (first | ((with_reducible first | apply pure_bs1 (tok Try.prog)); exact zT; exact zU; exact zT; exact zP; exact zR; exact zC; decide; decide; exact zU; exact zU))); decide) | ((with_reducible first | apply w_ift'); exact zV; exact zU) | fail
          all_goals try clear tE
          have hds := dsA_one (i : Int) k
          refine ⟨(i + 1, k), by simp only; omega, ⟨by simp only; omega, by rw [ht]; exact dsI_new⟩, rfl, ?_⟩
          simp only [ht, List.nil_append]
          (have tE := And.intro (@upd_upd AV) <| And.intro (@upd_upd (Option Blk)) <| And.intro hw <| And.intro hds <| And.intro Fs.cells.eq_1 <| Cf.cells.eq_1; simp only [fitsT, List.take_zero, List.length_nil, sp_cons, sp_nil, upd_b, Nat.reduceBEq, cond_true, cond_false, args0_zero, args0_succ, args0_nil, tE]; repeat' first | exact trivial | apply And.intro | exact Sub.refl _ | exact Sub.cap)
        | cons d ds =>
          have hbl := (hb.blk (by simp)).2
          have hok := (hb.blk (by simp)).1
          have hdl : ds.length ≤ 1000000 := by rw [List.length_cons] at hbd; omega
          have hfl : (intRows (d :: ds)).flatten.length = ds.length + 1 := by rw [flat_len (intRows_row _), intRows_len, Nat.mul_one, List.length_cons]
          have tE := And.intro (@upd_upd AV) <| And.intro (@upd_upd (Option Blk)) <| And.intro g1 <| And.intro g0 <| And.intro hr <| And.intro hw <| And.intro hdt <| And.intro dsA.eq_2 <| And.intro hbl <| And.intro hfl <| And.intro Fs.cells.eq_1 <| And.intro Fr.cells.eq_1 <| And.intro frRows_len <| And.intro ty3 <| And.intro ty4 <| And.intro ty5 <| And.intro ty24 <| And.intro ty26 <| And.intro ty34 <| And.intro ty35 <| And.intro ty37 <| Try.results80; repeat' first | ((with_reducible first | apply w_seq | apply w_region | apply wl_nil | apply wr_nil | apply wr_nilA | apply wr_nilE | apply go_normal | apply go_ret | apply go_exit | apply blk_normal | apply blk_ret | apply blk_here | apply w_block | apply w_skip | apply w_exit | apply w_label)) | ((with_reducible first | apply wz (tok Try.prog) | apply wr_z (tok Try.prog)); exact zZ; decide) | ((with_reducible first | apply w_ap | apply wr_ap); (focus (first | (intro _ ho _ hr _; (with_reducible apply ap_new (tok Try.prog) ho (hr := hr)); exact zT; exact zU; exact zT; exact zT; exact zU; exact zA; exact zV; exact zK; exact zM; exact zK; exact zK; decide) | (intro _ ho _ hr _; (with_reducible apply ap_own (tok Try.prog) ho (hr := hr)); exact zT; exact zU; exact zT; exact zT; exact zU; exact zV; exact zV; exact zH; exact zKo; exact zM; (focus (first | rfl | assumption)); exact zKo; exact zKo; decide))); decide) | ((with_reducible first | apply wp | apply wr_p); (focus (first | ((with_reducible first | apply pure_bs1 (tok Try.prog)); exact zT; exact zU; exact zT; exact zP; exact zR; exact zC; decide; decide; exact zU; exact zU))); decide) | ((with_reducible first | apply w_ift'); exact zV; exact zU) | fail
          all_goals try clear tE
          have hds := dsA_more d (i : Int) ds k
          refine ⟨(i + 1, k), by simp only; omega, ⟨by simp only; omega, by rw [ht]; exact dsI_more⟩, rfl, ?_⟩
          simp only [ht]
          (have tE := And.intro (@upd_upd AV) <| And.intro (@upd_upd (Option Blk)) <| And.intro hw <| And.intro hds <| And.intro Fs.cells.eq_1 <| Cf.cells.eq_1; simp only [fitsT, List.take_zero, List.length_nil, sp_cons, sp_nil, upd_b, Nat.reduceBEq, cond_true, cond_false, args0_zero, args0_succ, args0_nil, tE]; repeat' first | exact trivial | apply And.intro | exact Sub.refl _ | exact Sub.cap)
    · have g1 : ((i : Int) < (f.l.length : Int)) = False := by simp; omega
      have ei : i = f.l.length := by omega
      subst ei
      rw [List.take_length] at hb ⊢
      have ho := dsA_own (fun h => (hb.blk h).2)
      have tE := And.intro (@upd_upd AV) <| And.intro (@upd_upd (Option Blk)) <| And.intro g1 <| And.intro g0 <| And.intro Fs.cells.eq_1 <| And.intro frRows_len <| And.intro ty3 <| And.intro ty4 <| And.intro ty5 <| And.intro ty24 <| And.intro ty26 <| And.intro ty34 <| And.intro ty35 <| And.intro ty37 <| Try.results80; repeat' first | ((with_reducible first | apply w_seq | apply w_region | apply wl_nil | apply wr_nil | apply wr_nilA | apply wr_nilE | apply go_normal | apply go_ret | apply go_exit | apply blk_normal | apply blk_ret | apply blk_here | apply w_block | apply w_skip | apply w_exit | apply w_label)) | ((with_reducible first | apply wz (tok Try.prog) | apply wr_z (tok Try.prog)); exact zZ; decide) | ((with_reducible first | apply w_iff'); exact zV; exact zU) | ((with_reducible apply w_ret); (repeat (with_reducible first | apply go_ret | apply blk_ret)); (with_reducible first | apply donef_ret (tok Try.prog) | apply doneA_ret (tok Try.prog)); exact zT; exact zD) | fail
      all_goals try clear tE
      exact ⟨_, _, rfl, ho, rfl⟩
/-- What Dirty answers. -/
def dirtyF (c : Cf) (f : Fs) : List Int := if okF c f = true then dirtyL f.l 0 else []
theorem pf41 (c : Cf) (f : Fs) (hl : f.l.length ≤ 1000000) (hpl : ∀ x, x ∈ f.l → x.pins.length ≤ 1000000) : PF Try.prog 41 [.agg c.cells, .agg f.cells] (fun r => r = .view (intRows (dirtyF c f))) := by
  have h37 := pf37 c f hl hpl
  have h80 := (nf80 f hl).pf
  refine pf_of_wf0 Try.func41 (c := _) rfl rfl (Nat.le_of_ble_eq_true rfl) args_2cf ?_
  rw [show Try.f41.ntmps = 11 from rfl]
  cases hok : okF c f with
  | false =>
    have ev : eF c f = 8 := by simp [eF, hok]
    rw [ev] at h37
    have hd : dirtyF c f = [] := by simp [dirtyF, hok]
    have tE := And.intro (@upd_upd AV) <| And.intro (@upd_upd (Option Blk)) <| And.intro Cf.cells.eq_1 <| And.intro Fs.cells.eq_1 <| And.intro ev <| And.intro ty3 <| And.intro ty4 <| And.intro ty5 <| And.intro ty23 <| And.intro ty24 <| And.intro ty26 <| And.intro ty34 <| And.intro ty35 <| And.intro ty37 <| Try.results41; repeat' first | ((with_reducible first | apply w_seq | apply w_region | apply wl_nil | apply wr_nil | apply wr_nilA | apply wr_nilE | apply go_normal | apply go_ret | apply go_exit | apply blk_normal | apply blk_ret | apply blk_here | apply w_block | apply w_skip | apply w_exit | apply w_label)) | ((with_reducible first | apply wz (tok Try.prog) | apply wr_z (tok Try.prog)); exact zZ; decide) | ((with_reducible first | apply wcall' | apply wr_call); exact zV; exact zVs; exact zAs; (focus (with_unfolding_all first | exact h37 | exact h80)); decide) | ((with_reducible first | apply w_ift'); exact zV; exact zU) | ((with_reducible apply w_ret); (repeat (with_reducible first | apply go_ret | apply blk_ret)); (with_reducible first | apply donef_ret (tok Try.prog) | apply doneA_ret (tok Try.prog)); exact zT; exact zD) | fail
    all_goals try clear tE
    · exact .nothing
    · exact intRows_pur []
    · rw [hd]; rfl
  | true =>
    have ev : eF c f = 0 := by simp [eF, hok]
    rw [ev] at h37
    have hd : dirtyF c f = dirtyL f.l 0 := by simp [dirtyF, hok]
    have tE := And.intro (@upd_upd AV) <| And.intro (@upd_upd (Option Blk)) <| And.intro Cf.cells.eq_1 <| And.intro Fs.cells.eq_1 <| And.intro ev <| And.intro ty3 <| And.intro ty4 <| And.intro ty5 <| And.intro ty23 <| And.intro ty24 <| And.intro ty26 <| And.intro ty34 <| And.intro ty35 <| And.intro ty37 <| Try.results41; repeat' first | ((with_reducible first | apply w_seq | apply w_region | apply wl_nil | apply wr_nil | apply wr_nilA | apply wr_nilE | apply go_normal | apply go_ret | apply go_exit | apply blk_normal | apply blk_ret | apply blk_here | apply w_block | apply w_skip | apply w_exit | apply w_label)) | ((with_reducible first | apply wz (tok Try.prog) | apply wr_z (tok Try.prog)); exact zZ; decide) | ((with_reducible first | apply wcall' | apply wr_call); exact zV; exact zVs; exact zAs; (focus (with_unfolding_all first | exact h37 | exact h80)); decide) | ((with_reducible first | apply w_iff'); exact zV; exact zU) | ((with_reducible apply w_ret); (repeat (with_reducible first | apply go_ret | apply blk_ret)); (with_reducible first | apply donef_ret (tok Try.prog) | apply doneA_ret (tok Try.prog)); exact zT; exact zD) | fail
    all_goals try clear tE
    · exact .pur (intRows_pur _)
    · exact intRows_pur _
    · rw [hd]
theorem nf40_bad (c : Cf) (f : Fs) (hl : f.l.length ≤ 1000000) (hpl : ∀ x, x ∈ f.l → x.pins.length ≤ 1000000) (hok : okF c f = false) : NF Try.prog 40 [.agg c.cells, .agg f.cells] (fun r => r = .view (intRows [])) := by
  have h11 := pf11 c f hl hpl
  have ev : eF c f = 8 := by simp [eF, hok]
  have hfv : Pur (.vptr f.cells) := .vptr (fs_pur f)
  have hcv : Pur (.vptr c.cells) := .vptr (cells_pur c)
  refine nf_of_w0 Try.func40 (c := _) rfl rfl (Nat.le_of_ble_eq_true rfl) args_2cf ?_
  rw [show Try.f40.ntmps = 30 from rfl]
  have tE := And.intro (@upd_upd AV) <| And.intro (@upd_upd (Option Blk)) <| And.intro Cf.cells.eq_1 <| And.intro Fs.cells.eq_1 <| And.intro ev <| And.intro ty3 <| And.intro ty4 <| And.intro ty5 <| And.intro ty23 <| And.intro ty24 <| And.intro ty26 <| And.intro ty29 <| And.intro ty34 <| And.intro ty35 <| And.intro ty37 <| Try.results40; repeat' first | ((with_reducible first | apply w_seq | apply w_region | apply wl_nil | apply wr_nil | apply wr_nilA | apply wr_nilE | apply go_normal | apply go_ret | apply go_exit | apply blk_normal | apply blk_ret | apply blk_here | apply w_block | apply w_skip | apply w_exit | apply w_label)) | ((with_reducible first | apply wz (tok Try.prog) | apply wr_z (tok Try.prog)); exact zZ; decide) | fail
  all_goals try clear tE
  refine w_loopP (S := Unit) (fun s => [(2, .vptr c.cells), (3, .vptr f.cells), (4, .empty), (5, .int .i64 0)]) [] (fun s H k => True) (fun s => 0) () ?_ rfl trivial ?_
  · (have tE := And.intro (@upd_upd AV) <| And.intro (@upd_upd (Option Blk)) <| And.intro Cf.cells.eq_1 <| Fs.cells.eq_1; simp only [fitsT, List.take_zero, List.length_nil, sp_cons, sp_nil, upd_b, Nat.reduceBEq, cond_true, cond_false, args0_zero, args0_succ, args0_nil, tE]; repeat' first | exact trivial | apply And.intro | exact Sub.refl _ | exact Sub.cap)
  · rintro _ H k -
    have tE := And.intro (@upd_upd AV) <| And.intro (@upd_upd (Option Blk)) <| And.intro Cf.cells.eq_1 <| And.intro Fs.cells.eq_1 <| And.intro ev <| And.intro ty3 <| And.intro ty4 <| And.intro ty5 <| And.intro ty23 <| And.intro ty24 <| And.intro ty26 <| And.intro ty29 <| And.intro ty34 <| And.intro ty35 <| And.intro ty37 <| Try.results40; repeat' first | ((with_reducible first | apply w_seq | apply w_region | apply wl_nil | apply wr_nil | apply wr_nilA | apply wr_nilE | apply go_normal | apply go_ret | apply go_exit | apply blk_normal | apply blk_ret | apply blk_here | apply w_block | apply w_skip | apply w_exit | apply w_label)) | ((with_reducible first | apply wz (tok Try.prog) | apply wr_z (tok Try.prog)); exact zZ; decide) | ((with_reducible first | apply wskip' | apply wr_skip); exact zU; exact zL; exact zU; decide) | ((with_reducible first | apply wcall' | apply wr_call); exact zV; exact zVs; exact zAs; (focus (with_unfolding_all first | exact h11)); decide) | ((with_reducible first | apply w_iff'); exact zV; exact zU) | ((with_reducible apply w_ret); (repeat (with_reducible first | apply go_ret | apply blk_ret)); (with_reducible first | apply donef_ret (tok Try.prog) | apply doneA_ret (tok Try.prog)); exact zT; exact zD) | fail
    all_goals try clear tE
    exact ⟨_, _, rfl, .nothing, rfl⟩
theorem nf40_ok (c : Cf) (f : Fs) (hl : f.l.length ≤ 1000000) (hpl : ∀ x, x ∈ f.l → x.pins.length ≤ 1000000) (hok : okF c f = true) : NF Try.prog 40 [.agg c.cells, .agg f.cells] (fun r => r = .view (intRows (dirtyL f.l 0))) := by
  have h11 := pf11 c f hl hpl
  have ev : eF c f = 0 := by simp [eF, hok]
  refine nf_of_w0 Try.func40 (c := _) rfl rfl (Nat.le_of_ble_eq_true rfl) args_2cf ?_
  rw [show Try.f40.ntmps = 30 from rfl]
  have hfv : Pur (.vptr f.cells) := .vptr (fs_pur f)
  have hcv : Pur (.vptr c.cells) := .vptr (cells_pur c)
  have tE := And.intro (@upd_upd AV) <| And.intro (@upd_upd (Option Blk)) <| And.intro Fs.cells.eq_1 <| And.intro Cf.cells.eq_1 <| And.intro ty3 <| And.intro ty4 <| And.intro ty5 <| And.intro ty23 <| And.intro ty24 <| And.intro ty26 <| And.intro ty29 <| And.intro ty34 <| And.intro ty35 <| And.intro ty37 <| Try.results40; repeat' first | ((with_reducible first | apply w_seq | apply w_region | apply wl_nil | apply wr_nil | apply wr_nilA | apply wr_nilE | apply go_normal | apply go_ret | apply go_exit | apply blk_normal | apply blk_ret | apply blk_here | apply w_block | apply w_skip | apply w_exit | apply w_label)) | ((with_reducible first | apply wz (tok Try.prog) | apply wr_z (tok Try.prog)); exact zZ; decide) | fail
  all_goals try clear tE
  refine w_loopP (S := Nat × Nat) (fun s => [(2, .vptr c.cells), (3, .vptr f.cells), (4, dsA (dirtyL (f.l.take s.1) 0) s.2), (5, .int .i64 (s.1 : Int))]) [] (fun s H k => s.1 ≤ f.l.length ∧ DsI (dirtyL (f.l.take s.1) 0) s.2 H k) (fun s => f.l.length - s.1) (0, 0) ?_ rfl ?_ ?_
  · (have tE := And.intro (@upd_upd AV) <| And.intro (@upd_upd (Option Blk)) <| And.intro Fs.cells.eq_1 <| And.intro Cf.cells.eq_1 <| And.intro dirtyL.eq_1 <| dsA.eq_1; simp only [fitsT, List.take_zero, List.length_nil, sp_cons, sp_nil, upd_b, Nat.reduceBEq, cond_true, cond_false, args0_zero, args0_succ, args0_nil, tE]; repeat' first | exact trivial | apply And.intro | exact Sub.refl _ | exact Sub.cap)
  · exact ⟨Nat.zero_le _, ⟨fun h => absurd rfl h⟩⟩
  · rintro ⟨i, o⟩ H k ⟨hi, hb⟩
    simp only at hi hb
    have hw : IntKind.i64.wrap ((i : Int) + 1) = ((i + 1 : Nat) : Int) := by rw [wrap64 (by omega) (by omega)]; rfl
    have g0 : (0 ≤ (i : Int)) = True := by simp
    by_cases e : i < f.l.length
    · have g1 : ((i : Int) < (f.l.length : Int)) = True := by simp; omega
      obtain ⟨u, hu⟩ : ∃ u, f.l[i]? = some u := ⟨f.l[i], List.getElem?_eq_getElem e⟩
      have hr := fr_row hu
      have ht := dirtyL_take hu
      cases hdt : u.dt with
      | false =>
        rw [hdt, if_neg (by decide), List.append_nil] at ht
        have tE := And.intro (@upd_upd AV) <| And.intro (@upd_upd (Option Blk)) <| And.intro g1 <| And.intro g0 <| And.intro hr <| And.intro hw <| And.intro hdt <| And.intro ev <| And.intro Cf.cells.eq_1 <| And.intro Fs.cells.eq_1 <| And.intro Fr.cells.eq_1 <| And.intro frRows_len <| And.intro ty3 <| And.intro ty4 <| And.intro ty5 <| And.intro ty23 <| And.intro ty24 <| And.intro ty26 <| And.intro ty29 <| And.intro ty34 <| And.intro ty35 <| And.intro ty37 <| Try.results40; repeat' first | ((with_reducible first | apply w_seq | apply w_region | apply wl_nil | apply wr_nil | apply wr_nilA | apply wr_nilE | apply go_normal | apply go_ret | apply go_exit | apply blk_normal | apply blk_ret | apply blk_here | apply w_block | apply w_skip | apply w_exit | apply w_label)) | ((with_reducible first | apply wz (tok Try.prog) | apply wr_z (tok Try.prog)); exact zZ; decide) | ((with_reducible first | apply wzg (tok Try.prog) | apply wr_zg (tok Try.prog)); exact zU; exact zL; exact zU; exact zZ; decide) | ((with_reducible first | apply wcall' | apply wr_call); exact zV; exact zVs; exact zAs; (focus (with_unfolding_all first | exact h11)); decide) | ((with_reducible first | apply w_ift'); exact zV; exact zU) | ((with_reducible first | apply w_iff'); exact zV; exact zU) | fail
        all_goals try clear tE
        refine ⟨(i + 1, o), by simp only; omega, ⟨by simp only; omega, by rw [ht]; exact hb⟩, rfl, ?_⟩
        (have tE := And.intro (@upd_upd AV) <| And.intro (@upd_upd (Option Blk)) <| And.intro hw <| And.intro ht <| And.intro Fs.cells.eq_1 <| Cf.cells.eq_1; simp only [fitsT, List.take_zero, List.length_nil, sp_cons, sp_nil, upd_b, Nat.reduceBEq, cond_true, cond_false, args0_zero, args0_succ, args0_nil, tE]; repeat' first | exact trivial | apply And.intro | exact Sub.refl _ | exact Sub.cap)
      | true =>
        rw [hdt, if_pos rfl] at ht
        have hbd := dirtyL_len (f.l.take i) 0
        rw [List.length_take] at hbd
        generalize dirtyL (f.l.take i) 0 = ds at hb ht hbd
        cases ds with
        | nil =>
          have tE := And.intro (@upd_upd AV) <| And.intro (@upd_upd (Option Blk)) <| And.intro g1 <| And.intro g0 <| And.intro hr <| And.intro hw <| And.intro hdt <| And.intro dsA.eq_1 <| And.intro ev <| And.intro Cf.cells.eq_1 <| And.intro Fs.cells.eq_1 <| And.intro Fr.cells.eq_1 <| And.intro frRows_len <| And.intro ty3 <| And.intro ty4 <| And.intro ty5 <| And.intro ty23 <| And.intro ty24 <| And.intro ty26 <| And.intro ty29 <| And.intro ty34 <| And.intro ty35 <| And.intro ty37 <| Try.results40; repeat' first | ((with_reducible first | apply w_seq | apply w_region | apply wl_nil | apply wr_nil | apply wr_nilA | apply wr_nilE | apply go_normal | apply go_ret | apply go_exit | apply blk_normal | apply blk_ret | apply blk_here | apply w_block | apply w_skip | apply w_exit | apply w_label)) | ((with_reducible first | apply wz (tok Try.prog) | apply wr_z (tok Try.prog)); exact zZ; decide) | ((with_reducible first | apply wzg (tok Try.prog) | apply wr_zg (tok Try.prog)); exact zU; exact zL; exact zU; exact zZ; decide) | ((with_reducible first | apply wcall' | apply wr_call); exact zV; exact zVs; exact zAs; (focus (with_unfolding_all first | exact h11)); decide) | ((with_reducible first | apply w_ap | apply wr_ap); (focus (first | (intro _ ho _ hr _; (with_reducible apply ap_new (tok Try.prog) ho (hr := hr)); exact zT; exact zU; exact zT; exact zT; exact zU; exact zA; exact zV; exact zK; exact zM; exact zK; exact zK; decide) | (intro _ ho _ hr _; (with_reducible apply ap_own (tok Try.prog) ho (hr := hr)); exact zT; exact zU; exact zT; exact zT; exact zU; exact zV; exact zV; exact zH; exact zKo; exact zM; (focus (first | rfl | assumption)); exact zKo; exact zKo; decide))); decide) | ((with_reducible first | apply wp | apply wr_p); (focus (first | ((with_reducible first | apply pure_bs1 (tok Try.prog)); exact zT; exact zU; exact zT; exact zP; exact zR; exact zC; decide; decide; exact zU; exact zU))); decide) | ((with_reducible first | apply w_ift'); exact zV; exact zU) | fail
          all_goals try clear tE
          have hds := dsA_one (i : Int) k
          refine ⟨(i + 1, k), by simp only; omega, ⟨by simp only; omega, by rw [ht]; exact dsI_new⟩, rfl, ?_⟩
          simp only [ht, List.nil_append]
          (have tE := And.intro (@upd_upd AV) <| And.intro (@upd_upd (Option Blk)) <| And.intro hw <| And.intro hds <| And.intro Fs.cells.eq_1 <| Cf.cells.eq_1; simp only [fitsT, List.take_zero, List.length_nil, sp_cons, sp_nil, upd_b, Nat.reduceBEq, cond_true, cond_false, args0_zero, args0_succ, args0_nil, tE]; repeat' first | exact trivial | apply And.intro | exact Sub.refl _ | exact Sub.cap)
        | cons d ds =>
          have hbl := (hb.blk (by simp)).2
          have hok := (hb.blk (by simp)).1
          have hdl : ds.length ≤ 1000000 := by rw [List.length_cons] at hbd; omega
          have hfl : (intRows (d :: ds)).flatten.length = ds.length + 1 := by rw [flat_len (intRows_row _), intRows_len, Nat.mul_one, List.length_cons]
          have tE := And.intro (@upd_upd AV) <| And.intro (@upd_upd (Option Blk)) <| And.intro g1 <| And.intro g0 <| And.intro hr <| And.intro hw <| And.intro hdt <| And.intro dsA.eq_2 <| And.intro hbl <| And.intro hfl <| And.intro ev <| And.intro Cf.cells.eq_1 <| And.intro Fs.cells.eq_1 <| And.intro Fr.cells.eq_1 <| And.intro frRows_len <| And.intro ty3 <| And.intro ty4 <| And.intro ty5 <| And.intro ty23 <| And.intro ty24 <| And.intro ty26 <| And.intro ty29 <| And.intro ty34 <| And.intro ty35 <| And.intro ty37 <| Try.results40; repeat' first | ((with_reducible first | apply w_seq | apply w_region | apply wl_nil | apply wr_nil | apply wr_nilA | apply wr_nilE | apply go_normal | apply go_ret | apply go_exit | apply blk_normal | apply blk_ret | apply blk_here | apply w_block | apply w_skip | apply w_exit | apply w_label)) | ((with_reducible first | apply wz (tok Try.prog) | apply wr_z (tok Try.prog)); exact zZ; decide) | ((with_reducible first | apply wzg (tok Try.prog) | apply wr_zg (tok Try.prog)); exact zU; exact zL; exact zU; exact zZ; decide) | ((with_reducible first | apply wcall' | apply wr_call); exact zV; exact zVs; exact zAs; (focus (with_unfolding_all first | exact h11)); decide) | ((with_reducible first | apply w_ap | apply wr_ap); (focus (first | (intro _ ho _ hr _; (with_reducible apply ap_new (tok Try.prog) ho (hr := hr)); exact zT; exact zU; exact zT; exact zT; exact zU; exact zA; exact zV; exact zK; exact zM; exact zK; exact zK; decide) | (intro _ ho _ hr _; (with_reducible apply ap_own (tok Try.prog) ho (hr := hr)); exact zT; exact zU; exact zT; exact zT; exact zU; exact zV; exact zV; exact zH; exact zKo; exact zM; (focus (first | rfl | assumption)); exact zKo; exact zKo; decide))); decide) | ((with_reducible first | apply wp | apply wr_p); (focus (first | ((with_reducible first | apply pure_bs1 (tok Try.prog)); exact zT; exact zU; exact zT; exact zP; exact zR; exact zC; decide; decide; exact zU; exact zU))); decide) | ((with_reducible first | apply w_ift'); exact zV; exact zU) | fail
          all_goals try clear tE
          have hds := dsA_more d (i : Int) ds k
          refine ⟨(i + 1, k), by simp only; omega, ⟨by simp only; omega, by rw [ht]; exact dsI_more⟩, rfl, ?_⟩
          simp only [ht]
          (have tE := And.intro (@upd_upd AV) <| And.intro (@upd_upd (Option Blk)) <| And.intro hw <| And.intro hds <| And.intro Fs.cells.eq_1 <| Cf.cells.eq_1; simp only [fitsT, List.take_zero, List.length_nil, sp_cons, sp_nil, upd_b, Nat.reduceBEq, cond_true, cond_false, args0_zero, args0_succ, args0_nil, tE]; repeat' first | exact trivial | apply And.intro | exact Sub.refl _ | exact Sub.cap)
    · have g1 : ((i : Int) < (f.l.length : Int)) = False := by simp; omega
      have ei : i = f.l.length := by omega
      subst ei
      rw [List.take_length] at hb ⊢
      have ho := dsA_own (fun h => (hb.blk h).2)
      have tE := And.intro (@upd_upd AV) <| And.intro (@upd_upd (Option Blk)) <| And.intro g1 <| And.intro g0 <| And.intro ev <| And.intro Cf.cells.eq_1 <| And.intro Fs.cells.eq_1 <| And.intro frRows_len <| And.intro ty3 <| And.intro ty4 <| And.intro ty5 <| And.intro ty23 <| And.intro ty24 <| And.intro ty26 <| And.intro ty29 <| And.intro ty34 <| And.intro ty35 <| And.intro ty37 <| Try.results40; repeat' first | ((with_reducible first | apply w_seq | apply w_region | apply wl_nil | apply wr_nil | apply wr_nilA | apply wr_nilE | apply go_normal | apply go_ret | apply go_exit | apply blk_normal | apply blk_ret | apply blk_here | apply w_block | apply w_skip | apply w_exit | apply w_label)) | ((with_reducible first | apply wz (tok Try.prog) | apply wr_z (tok Try.prog)); exact zZ; decide) | ((with_reducible first | apply wzg (tok Try.prog) | apply wr_zg (tok Try.prog)); exact zU; exact zL; exact zU; exact zZ; decide) | ((with_reducible first | apply wcall' | apply wr_call); exact zV; exact zVs; exact zAs; (focus (with_unfolding_all first | exact h11)); decide) | ((with_reducible first | apply w_iff'); exact zV; exact zU) | ((with_reducible apply w_ret); (repeat (with_reducible first | apply go_ret | apply blk_ret)); (with_reducible first | apply donef_ret (tok Try.prog) | apply doneA_ret (tok Try.prog)); exact zT; exact zD) | fail
      all_goals try clear tE
      exact ⟨_, _, rfl, ho, rfl⟩
theorem nf40 (c : Cf) (f : Fs) (hl : f.l.length ≤ 1000000) (hpl : ∀ x, x ∈ f.l → x.pins.length ≤ 1000000) : NF Try.prog 40 [.agg c.cells, .agg f.cells] (fun r => r = .view (intRows (dirtyF c f))) := by
  cases hok : okF c f with
  | false => exact (nf40_bad c f hl hpl hok).mono (fun x h => by rw [h, dirtyF, if_neg (by simp [hok])])
  | true => exact (nf40_ok c f hl hpl hok).mono (fun x h => by rw [h, dirtyF, if_pos hok])
end Go.Proofs.Ytlmighkbeacjnaa
