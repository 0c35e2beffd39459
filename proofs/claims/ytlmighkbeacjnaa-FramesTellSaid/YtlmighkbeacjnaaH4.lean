/- Find and the reference's Find. -/
import Derived.Test.YtlmighkbeacjnaaH3
open Go Go.Lg
set_option linter.unusedSimpArgs false
set_option linter.unusedVariables false
set_option maxHeartbeats 4000000
set_option maxRecDepth 20000
namespace Go.Proofs.Ytlmighkbeacjnaa
def findB (c : Cf) (f : Fs) (p : Int) : Bool := okF c f && decide (0 ≤ fidx (isAt p) f.l 0)
def findI (c : Cf) (f : Fs) (p : Int) : Int := if findB c f p = true then fidx (isAt p) f.l 0 else 0
theorem pf34 (c : Cf) (f : Fs) (p : Int) (hl : f.l.length ≤ 1000000) (hpl : ∀ x, x ∈ f.l → x.pins.length ≤ 1000000) : PF Try.prog 34 [.agg c.cells, .agg f.cells, .int .i64 p] (fun r => r = .tuple [.int .i64 (findI c f p), .bool (findB c f p)]) := by
  have h37 := pf37 c f hl hpl
  have h59 := pf59 f p hl
  refine pf_of_w0 Try.func34 (c := _) rfl rfl (Nat.le_of_ble_eq_true rfl) args_3i ?_
  rw [show Try.f34.ntmps = 21 from rfl]
  cases hok : okF c f with
  | false =>
    have ev : eF c f = 8 := by simp [eF, hok]
    rw [ev] at h37
    have tE := And.intro (@upd_upd AV) <| And.intro (@upd_upd (Option Blk)) <| And.intro Cf.cells.eq_1 <| And.intro Fs.cells.eq_1 <| And.intro ty3 <| And.intro ty4 <| And.intro ty5 <| And.intro ty23 <| And.intro ty24 <| And.intro ty26 <| And.intro ty34 <| And.intro ty35 <| And.intro ty37 <| Try.results34; repeat' first | ((with_reducible first | apply w_seq | apply w_region | apply wl_nil | apply wr_nil | apply wr_nilA | apply wr_nilE | apply go_normal | apply go_ret | apply go_exit | apply blk_normal | apply blk_ret | apply blk_here | apply w_block | apply w_skip | apply w_exit | apply w_label)) | ((with_reducible first | apply wz (tok Try.prog) | apply wr_z (tok Try.prog)); exact zZ; decide) | ((with_reducible first | apply wskip' | apply wr_skip); exact zU; exact zL; exact zU; decide) | ((with_reducible first | apply wcall' | apply wr_call); exact zV; exact zVs; exact zAs; (focus (with_unfolding_all first | exact h37 | exact h59)); decide) | ((with_reducible first | apply w_ift'); exact zV; exact zU) | ((with_reducible apply w_ret); (repeat (with_reducible first | apply go_ret | apply blk_ret)); (with_reducible apply done_ret (tok Try.prog)); exact zT; exact zD; exact zX) | fail
    all_goals try clear tE
    simp [tup, findI, findB, hok]
  | true =>
    have ev : eF c f = 0 := by simp [eF, hok]
    rw [ev] at h37
    by_cases hn : fidx (isAt p) f.l 0 < 0
    · have g1 : (fidx (isAt p) f.l 0 < 0) = True := eq_true hn
      have hn' : ¬ 0 ≤ fidx (isAt p) f.l 0 := by omega
      have tE := And.intro (@upd_upd AV) <| And.intro (@upd_upd (Option Blk)) <| And.intro g1 <| And.intro Cf.cells.eq_1 <| And.intro Fs.cells.eq_1 <| And.intro ty3 <| And.intro ty4 <| And.intro ty5 <| And.intro ty23 <| And.intro ty24 <| And.intro ty26 <| And.intro ty34 <| And.intro ty35 <| And.intro ty37 <| Try.results34; repeat' first | ((with_reducible first | apply w_seq | apply w_region | apply wl_nil | apply wr_nil | apply wr_nilA | apply wr_nilE | apply go_normal | apply go_ret | apply go_exit | apply blk_normal | apply blk_ret | apply blk_here | apply w_block | apply w_skip | apply w_exit | apply w_label)) | ((with_reducible first | apply wz (tok Try.prog) | apply wr_z (tok Try.prog)); exact zZ; decide) | ((with_reducible first | apply wzg (tok Try.prog) | apply wr_zg (tok Try.prog)); exact zU; exact zL; exact zU; exact zZ; decide) | ((with_reducible first | apply wcall' | apply wr_call); exact zV; exact zVs; exact zAs; (focus (with_unfolding_all first | exact h37 | exact h59)); decide) | ((with_reducible first | apply wcallg' | apply wr_callg); exact zU; exact zL; exact zU; exact zV; exact zVs; exact zAs; (focus (with_unfolding_all first | exact h37 | exact h59)); decide) | ((with_reducible first | apply w_ift'); exact zV; exact zU) | ((with_reducible apply w_ret); (repeat (with_reducible first | apply go_ret | apply blk_ret)); (with_reducible apply done_ret (tok Try.prog)); exact zT; exact zD; exact zX) | fail
      all_goals try clear tE
      simp [tup, findI, findB, hok, hn']
    · have g1 : (fidx (isAt p) f.l 0 < 0) = False := eq_false hn
      have hn' : 0 ≤ fidx (isAt p) f.l 0 := by omega
      have tE := And.intro (@upd_upd AV) <| And.intro (@upd_upd (Option Blk)) <| And.intro g1 <| And.intro Cf.cells.eq_1 <| And.intro Fs.cells.eq_1 <| And.intro ty3 <| And.intro ty4 <| And.intro ty5 <| And.intro ty23 <| And.intro ty24 <| And.intro ty26 <| And.intro ty34 <| And.intro ty35 <| And.intro ty37 <| Try.results34; repeat' first | ((with_reducible first | apply w_seq | apply w_region | apply wl_nil | apply wr_nil | apply wr_nilA | apply wr_nilE | apply go_normal | apply go_ret | apply go_exit | apply blk_normal | apply blk_ret | apply blk_here | apply w_block | apply w_skip | apply w_exit | apply w_label)) | ((with_reducible first | apply wz (tok Try.prog) | apply wr_z (tok Try.prog)); exact zZ; decide) | ((with_reducible first | apply wzg (tok Try.prog) | apply wr_zg (tok Try.prog)); exact zU; exact zL; exact zU; exact zZ; decide) | ((with_reducible first | apply wcall' | apply wr_call); exact zV; exact zVs; exact zAs; (focus (with_unfolding_all first | exact h37 | exact h59)); decide) | ((with_reducible first | apply wcallg' | apply wr_callg); exact zU; exact zL; exact zU; exact zV; exact zVs; exact zAs; (focus (with_unfolding_all first | exact h37 | exact h59)); decide) | ((with_reducible first | apply w_iff'); exact zV; exact zU) | ((with_reducible apply w_ret); (repeat (with_reducible first | apply go_ret | apply blk_ret)); (with_reducible apply done_ret (tok Try.prog)); exact zT; exact zD; exact zX) | fail
      all_goals try clear tE
      simp [tup, findI, findB, hok, hn']
theorem pf33 (c : Cf) (f : Fs) (p : Int) (hl : f.l.length ≤ 1000000) (hpl : ∀ x, x ∈ f.l → x.pins.length ≤ 1000000) : PF Try.prog 33 [.agg c.cells, .agg f.cells, .int .i64 p] (fun r => r = .tuple [.int .i64 (findI c f p), .bool (findB c f p)]) := by
  cases hok : okF c f with
  | false =>
    have := pf33_bad c f p hl hpl hok
    simpa [findI, findB, hok] using this
  | true =>
    by_cases hn : 0 ≤ fidx (isAt p) f.l 0
    · have hat : (((fidx (isAt p) f.l 0).toNat : Nat) : Int) = fidx (isAt p) f.l 0 := by omega
      have := pf33_ok c f p hl hpl hok (fidx (isAt p) f.l 0).toNat hat.symm
      rw [hat] at this
      simpa [findI, findB, hok, hn] using this
    · have ev : eF c f = 0 := by simp [eF, hok]
      have h11 := pf11 c f hl hpl
      have h58 := pf58 f p hl
      have g1 : (fidx (isAt p) f.l 0 ≥ 0) = False := eq_false (by omega)
      have hx : 0 > fidx (isAt p) f.l 0 := by omega
      have g2 : (0 > fidx (isAt p) f.l 0) = True := eq_true hx
      have hmx : max (fidx (isAt p) f.l 0) 0 = 0 := by omega
      refine pf_of_w0 Try.func33 (c := _) rfl rfl (Nat.le_of_ble_eq_true rfl) args_3i ?_
      rw [show Try.f33.ntmps = 20 from rfl]
      have tE := And.intro (@upd_upd AV) <| And.intro (@upd_upd (Option Blk)) <| And.intro Cf.cells.eq_1 <| And.intro Fs.cells.eq_1 <| And.intro ev <| And.intro g1 <| And.intro hmx <| And.intro ty3 <| And.intro ty4 <| And.intro ty5 <| And.intro ty23 <| And.intro ty24 <| And.intro ty26 <| And.intro ty29 <| And.intro ty34 <| And.intro ty35 <| And.intro ty37 <| Try.results33; repeat' first | ((with_reducible first | apply w_seq | apply w_region | apply wl_nil | apply wr_nil | apply wr_nilA | apply wr_nilE | apply go_normal | apply go_ret | apply go_exit | apply blk_normal | apply blk_ret | apply blk_here | apply w_block | apply w_skip | apply w_exit | apply w_label)) | ((with_reducible first | apply wz (tok Try.prog) | apply wr_z (tok Try.prog)); exact zZ; decide) | ((with_reducible first | apply wcall' | apply wr_call); exact zV; exact zVs; exact zAs; (focus (with_unfolding_all first | exact h11 | exact h58)); decide) | ((with_reducible first | apply wp | apply wr_p); (focus (first | ((with_reducible first | apply pure_max); exact zV; exact zV) | ((with_reducible first | apply pure_bs1 (tok Try.prog)); exact zT; exact zU; exact zT; exact zP; exact zR; exact zC; decide; decide; exact zU; exact zU))); decide) | ((with_reducible first | apply w_iff'); exact zV; exact zU) | ((with_reducible apply w_ret); (repeat (with_reducible first | apply go_ret | apply blk_ret)); (with_reducible apply done_ret (tok Try.prog)); exact zT; exact zD; exact zX) | fail
      all_goals try clear tE
      simp [tup, findI, findB, hok, hn, hx]
end Go.Proofs.Ytlmighkbeacjnaa
