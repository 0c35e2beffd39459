/- The reference of frames: one, May, Check, At, Find (functions that only compute). -/
import Derived.Test.YtlmighkbeacjnaaG7
open Go Go.Lg
set_option linter.unusedSimpArgs false
set_option linter.unusedVariables false
set_option maxHeartbeats 4000000
set_option maxRecDepth 20000
namespace Go.Proofs.Ytlmighkbeacjnaa
theorem pf96 (c : Cf) (x : Fr) (hl : x.pins.length ≤ 1000000) : PF Try.prog 96 [.agg c.cells, .agg x.cells] (fun r => r = .bool (mayF c x)) := by
  refine pf_of_w0 Try.func96 (c := _) rfl rfl (Nat.le_of_ble_eq_true rfl) (args_2 (cf_pur c) (fra_pur x)) ?_
  rw [show Try.f96.ntmps = 111 from rfl]
  have h50 := pf50 x hl
  have hcv : Pur (.vptr c.cells) := .vptr (cells_pur c)
  have hxv : Pur (.vptr x.cells) := .vptr (fr_pur x)
  by_cases hn : (x.pins.length : Int) = c.cl
  · have hne : ((x.pins.length : Int) != c.cl) = false := by simp [hn]
    have tE := And.intro (@upd_upd AV) <| And.intro (@upd_upd (Option Blk)) <| And.intro hne <| And.intro Cf.cells.eq_1 <| And.intro Fr.cells.eq_1 <| And.intro intRows_len <| And.intro ty3 <| And.intro ty4 <| And.intro ty5 <| And.intro ty23 <| And.intro ty34 <| And.intro ty35 <| And.intro ty37 <| Try.results96; repeat' first | ((with_reducible first | apply w_seq | apply w_region | apply wl_nil | apply wr_nil | apply wr_nilA | apply wr_nilE | apply go_normal | apply go_ret | apply go_exit | apply blk_normal | apply blk_ret | apply blk_here | apply w_block | apply w_skip | apply w_exit | apply w_label)) | ((with_reducible first | apply wz (tok Try.prog) | apply wr_z (tok Try.prog)); exact zZ; decide) | ((with_reducible first | apply w_iff'); exact zV; exact zU) | fail
    all_goals try clear tE
    refine w_loopS (S := Nat) (fun i => [(2, .vptr c.cells), (3, .vptr x.cells), (5, .int .i64 (i : Int))]) (fun _ => []) [] (fun i => i ≤ x.pins.length ∧ wildP x = (x.pins.drop i).any fun n => decide (n < 0 ∨ n > 8)) (fun i => x.pins.length - i) 0 ?_ ⟨Nat.zero_le _, rfl⟩ ?_
    · (have tu0 : Pur _ := hcv; have tu1 : Pur _ := hxv; have tE := And.intro (@upd_upd AV) <| @upd_upd (Option Blk); exact kcanS [])
    · rintro i ⟨hi, hix⟩
      simp only [St.ofS, List.length_nil]
      have hw : IntKind.i64.wrap ((i : Int) + 1) = ((i + 1 : Nat) : Int) := by rw [wrap64 (by omega) (by omega)]; rfl
      by_cases e : i < x.pins.length
      · have h1 : ((i : Int) < (x.pins.length : Int)) = True := by simp; omega
        have h0 : (0 ≤ (i : Int)) = True := by simp
        obtain ⟨u, hu⟩ : ∃ u, x.pins[i]? = some u := ⟨x.pins[i], List.getElem?_eq_getElem e⟩
        have hr := int_row hu
        have hd : x.pins.drop i = u :: x.pins.drop (i + 1) := by rw [List.drop_eq_getElem_cons e]; rw [List.getElem?_eq_getElem e] at hu; cases hu; rfl
        rw [hd, List.any_cons] at hix
        by_cases hb : u < 0
        · have hb' : (u < 0) = True := eq_true hb
          have tE := And.intro (@upd_upd AV) <| And.intro (@upd_upd (Option Blk)) <| And.intro h1 <| And.intro h0 <| And.intro hr <| And.intro hw <| And.intro hb' <| And.intro Cf.cells.eq_1 <| And.intro Fr.cells.eq_1 <| And.intro intRows_len <| And.intro ty3 <| And.intro ty4 <| And.intro ty5 <| And.intro ty23 <| And.intro ty34 <| And.intro ty35 <| And.intro ty37 <| Try.results96; repeat' first | ((with_reducible first | apply w_seq | apply w_region | apply wl_nil | apply wr_nil | apply wr_nilA | apply wr_nilE | apply go_normal | apply go_ret | apply go_exit | apply blk_normal | apply blk_ret | apply blk_here | apply w_block | apply w_skip | apply w_exit | apply w_label)) | ((with_reducible first | apply wz (tok Try.prog) | apply wr_z (tok Try.prog)); exact zZ; decide) | ((with_reducible first | apply wskip' | apply wr_skip); exact zU; exact zL; exact zU; decide) | ((with_reducible first | apply w_ift'); exact zV; exact zU) | ((with_reducible apply w_ret); (repeat (with_reducible first | apply go_ret | apply blk_ret)); (with_reducible apply done_ret (tok Try.prog)); exact zT; exact zD; exact zX) | fail
          all_goals try clear tE
          simp [tup, mayF, hix, hb]
        · have hb' : (u < 0) = False := eq_false hb
          by_cases hg : u > 8
          · have hg' : (u > 8) = True := eq_true hg
            have tE := And.intro (@upd_upd AV) <| And.intro (@upd_upd (Option Blk)) <| And.intro h1 <| And.intro h0 <| And.intro hr <| And.intro hw <| And.intro hb' <| And.intro hg' <| And.intro Cf.cells.eq_1 <| And.intro Fr.cells.eq_1 <| And.intro intRows_len <| And.intro ty3 <| And.intro ty4 <| And.intro ty5 <| And.intro ty23 <| And.intro ty34 <| And.intro ty35 <| And.intro ty37 <| Try.results96; repeat' first | ((with_reducible first | apply w_seq | apply w_region | apply wl_nil | apply wr_nil | apply wr_nilA | apply wr_nilE | apply go_normal | apply go_ret | apply go_exit | apply blk_normal | apply blk_ret | apply blk_here | apply w_block | apply w_skip | apply w_exit | apply w_label)) | ((with_reducible first | apply wz (tok Try.prog) | apply wr_z (tok Try.prog)); exact zZ; decide) | ((with_reducible first | apply wzg (tok Try.prog) | apply wr_zg (tok Try.prog)); exact zU; exact zL; exact zU; exact zZ; decide) | ((with_reducible first | apply w_ift'); exact zV; exact zU) | ((with_reducible apply w_ret); (repeat (with_reducible first | apply go_ret | apply blk_ret)); (with_reducible apply done_ret (tok Try.prog)); exact zT; exact zD; exact zX) | fail
            all_goals try clear tE
            simp [tup, mayF, hix, hg]
          · have hg' : (u > 8) = False := eq_false hg
            have tE := And.intro (@upd_upd AV) <| And.intro (@upd_upd (Option Blk)) <| And.intro h1 <| And.intro h0 <| And.intro hr <| And.intro hw <| And.intro hb' <| And.intro hg' <| And.intro Cf.cells.eq_1 <| And.intro Fr.cells.eq_1 <| And.intro intRows_len <| And.intro ty3 <| And.intro ty4 <| And.intro ty5 <| And.intro ty23 <| And.intro ty34 <| And.intro ty35 <| And.intro ty37 <| Try.results96; repeat' first | ((with_reducible first | apply w_seq | apply w_region | apply wl_nil | apply wr_nil | apply wr_nilA | apply wr_nilE | apply go_normal | apply go_ret | apply go_exit | apply blk_normal | apply blk_ret | apply blk_here | apply w_block | apply w_skip | apply w_exit | apply w_label)) | ((with_reducible first | apply wz (tok Try.prog) | apply wr_z (tok Try.prog)); exact zZ; decide) | ((with_reducible first | apply wzg (tok Try.prog) | apply wr_zg (tok Try.prog)); exact zU; exact zL; exact zU; exact zZ; decide) | ((with_reducible first | apply w_ift'); exact zV; exact zU) | ((with_reducible first | apply w_iff'); exact zV; exact zU) | fail
            all_goals try clear tE
            refine ⟨i + 1, by omega, ⟨by omega, by rw [hix]; simp [hb, hg]⟩, ?_⟩
            (have tu0 : Pur _ := hcv; have tu1 : Pur _ := hxv; have tE := And.intro (@upd_upd AV) <| @upd_upd (Option Blk); exact kcanS [])
      · have h1 : ((i : Int) < (x.pins.length : Int)) = False := by simp; omega
        have hd : x.pins.drop i = [] := List.drop_eq_nil_iff.2 (by omega)
        rw [hd] at hix
        have tE := And.intro (@upd_upd AV) <| And.intro (@upd_upd (Option Blk)) <| And.intro h1 <| And.intro Cf.cells.eq_1 <| And.intro Fr.cells.eq_1 <| And.intro intRows_len <| And.intro byteRows_len <| And.intro ty3 <| And.intro ty4 <| And.intro ty5 <| And.intro ty23 <| And.intro ty34 <| And.intro ty35 <| And.intro ty37 <| Try.results96; repeat' first | ((with_reducible first | apply w_seq | apply w_region | apply wl_nil | apply wr_nil | apply wr_nilA | apply wr_nilE | apply go_normal | apply go_ret | apply go_exit | apply blk_normal | apply blk_ret | apply blk_here | apply w_block | apply w_skip | apply w_exit | apply w_label)) | ((with_reducible first | apply wz (tok Try.prog) | apply wr_z (tok Try.prog)); exact zZ; decide) | ((with_reducible first | apply wzg (tok Try.prog) | apply wr_zg (tok Try.prog)); exact zU; exact zL; exact zU; exact zZ; decide) | ((with_reducible first | apply wskip' | apply wr_skip); exact zU; exact zL; exact zU; decide) | ((with_reducible first | apply wcallg' | apply wr_callg); exact zU; exact zL; exact zU; exact zV; exact zVs; exact zAs; (focus (with_unfolding_all first | exact h50)); decide) | ((with_reducible first | apply wsplit | apply wr_split); exact zU; exact zL; constructor <;> intro _) | ((with_reducible first | apply w_iff'); exact zV; exact zU) | ((with_reducible first | apply w_if); exact zV; constructor <;> intro _) | ((with_reducible apply w_ret); (repeat (with_reducible first | apply go_ret | apply blk_ret)); (with_reducible apply done_ret (tok Try.prog)); exact zT; exact zD; exact zX) | fail
        all_goals try clear tE
        all_goals first | (simp_all [tup, mayF, hn]; done) | (simp_all [tup, mayF, hn]; omega) | (simp_all [tup, mayF, hn]; rw [Bool.eq_iff_iff]; simp_all <;> omega)
  · have hne : ((x.pins.length : Int) != c.cl) = true := by simp [hn]
    have tE := And.intro (@upd_upd AV) <| And.intro (@upd_upd (Option Blk)) <| And.intro hne <| And.intro Cf.cells.eq_1 <| And.intro Fr.cells.eq_1 <| And.intro intRows_len <| And.intro ty3 <| And.intro ty4 <| And.intro ty5 <| And.intro ty23 <| And.intro ty34 <| And.intro ty35 <| And.intro ty37 <| Try.results96; repeat' first | ((with_reducible first | apply w_seq | apply w_region | apply wl_nil | apply wr_nil | apply wr_nilA | apply wr_nilE | apply go_normal | apply go_ret | apply go_exit | apply blk_normal | apply blk_ret | apply blk_here | apply w_block | apply w_skip | apply w_exit | apply w_label)) | ((with_reducible first | apply wz (tok Try.prog) | apply wr_z (tok Try.prog)); exact zZ; decide) | ((with_reducible first | apply w_ift'); exact zV; exact zU) | ((with_reducible apply w_ret); (repeat (with_reducible first | apply go_ret | apply blk_ret)); (with_reducible apply done_ret (tok Try.prog)); exact zT; exact zD; exact zX) | fail
    all_goals try clear tE
    simp [tup, mayF, hn]
theorem pf37_bad0 (c : Cf) (f : Fs) (h : c.good = false) : PF Try.prog 37 [.agg c.cells, .agg f.cells] (fun r => r = .int .i64 8) := by
  refine pf_of_w0 Try.func37 (c := _) rfl rfl (Nat.le_of_ble_eq_true rfl) (args_2 (cf_pur c) (fsa_pur f)) ?_
  rw [show Try.f37.ntmps = 14 from rfl]
  have h70 := pf70 c
  rw [h] at h70
  have tE := And.intro (@upd_upd AV) <| And.intro (@upd_upd (Option Blk)) <| And.intro Cf.cells.eq_1 <| And.intro Fs.cells.eq_1 <| And.intro ty3 <| And.intro ty4 <| And.intro ty5 <| And.intro ty23 <| And.intro ty24 <| And.intro ty26 <| And.intro ty34 <| And.intro ty35 <| And.intro ty37 <| Try.results37; repeat' first | ((with_reducible first | apply w_seq | apply w_region | apply wl_nil | apply wr_nil | apply wr_nilA | apply wr_nilE | apply go_normal | apply go_ret | apply go_exit | apply blk_normal | apply blk_ret | apply blk_here | apply w_block | apply w_skip | apply w_exit | apply w_label)) | ((with_reducible first | apply wz (tok Try.prog) | apply wr_z (tok Try.prog)); exact zZ; decide) | ((with_reducible first | apply wskip' | apply wr_skip); exact zU; exact zL; exact zU; decide) | ((with_reducible first | apply wcall' | apply wr_call); exact zV; exact zVs; exact zAs; (focus (with_unfolding_all first | exact h70)); decide) | ((with_reducible first | apply w_ift'); exact zV; exact zU) | ((with_reducible apply w_ret); (repeat (with_reducible first | apply go_ret | apply blk_ret)); (with_reducible apply done_ret (tok Try.prog)); exact zT; exact zD; exact zX) | fail
  all_goals try clear tE
  rfl
end Go.Proofs.Ytlmighkbeacjnaa
