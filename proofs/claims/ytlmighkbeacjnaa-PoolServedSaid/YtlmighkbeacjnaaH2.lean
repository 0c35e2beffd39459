/- The reference of frames: At, May, Check, Find. -/
import Derived.Test.YtlmighkbeacjnaaH1
open Go Go.Lg
set_option linter.unusedSimpArgs false
set_option linter.unusedVariables false
set_option maxHeartbeats 4000000
set_option maxRecDepth 20000
namespace Go.Proofs.Ytlmighkbeacjnaa
theorem pf59 (f : Fs) (p : Int) (hl : f.l.length ≤ 1000000) : PF Try.prog 59 [.agg f.cells, .int .i64 p] (fun r => r = .int .i64 (fidx (isAt p) f.l 0)) := by
  refine pf_of_w0 Try.func59 (c := _) rfl rfl (Nat.le_of_ble_eq_true rfl) (args_2 (fsa_pur f) (.int _ _)) ?_
  rw [show Try.f59.ntmps = 31 from rfl]
  have hfv : Pur (.vptr f.cells) := .vptr (fs_pur f)
  have tE := And.intro (@upd_upd AV) <| And.intro (@upd_upd (Option Blk)) <| And.intro Fs.cells.eq_1 <| And.intro ty3 <| And.intro ty4 <| And.intro ty5 <| And.intro ty24 <| And.intro ty26 <| And.intro ty34 <| And.intro ty35 <| And.intro ty37 <| Try.results59; repeat' first | ((with_reducible first | apply w_seq | apply w_region | apply wl_nil | apply wr_nil | apply wr_nilA | apply wr_nilE | apply go_normal | apply go_ret | apply go_exit | apply blk_normal | apply blk_ret | apply blk_here | apply w_block | apply w_skip | apply w_exit | apply w_label)) | ((with_reducible first | apply wz (tok Try.prog) | apply wr_z (tok Try.prog)); exact zZ; decide) | fail
  all_goals try clear tE
  refine w_loopS (S := Nat) (fun i => [(1, .int .i64 p), (2, .vptr f.cells), (5, .int .i64 (i : Int))]) (fun _ => []) [] (fun i => i ≤ f.l.length ∧ fidx (isAt p) f.l 0 = fidx (isAt p) (f.l.drop i) i) (fun i => f.l.length - i) 0 ?_ ⟨Nat.zero_le _, rfl⟩ ?_
  · (have tu0 : Pur _ := hfv; have tE := And.intro (@upd_upd AV) <| @upd_upd (Option Blk); exact kcanS [])
  · rintro i ⟨hi, hix⟩
    simp only [St.ofS, List.length_nil]
    have hw : IntKind.i64.wrap ((i : Int) + 1) = ((i + 1 : Nat) : Int) := by rw [wrap64 (by omega) (by omega)]; rfl
    by_cases e : i < f.l.length
    · have h1 : ((i : Int) < (f.l.length : Int)) = True := by simp; omega
      have h0 : (0 ≤ (i : Int)) = True := by simp
      obtain ⟨u, hu⟩ : ∃ u, f.l[i]? = some u := ⟨f.l[i], List.getElem?_eq_getElem e⟩
      have hr := fr_row hu
      have hd : f.l.drop i = u :: f.l.drop (i + 1) := by rw [List.drop_eq_getElem_cons e]; rw [List.getElem?_eq_getElem e] at hu; cases hu; rfl
      rw [hd] at hix
      by_cases hk : u.k = 0
      · have hk' : (u.k != 0) = false := by simp [hk]
        have ht : isAt p u = false := by simp [isAt, hk]
        have tE := And.intro (@upd_upd AV) <| And.intro (@upd_upd (Option Blk)) <| And.intro h1 <| And.intro h0 <| And.intro hr <| And.intro hw <| And.intro hk' <| And.intro Fs.cells.eq_1 <| And.intro frRows_len <| And.intro ty3 <| And.intro ty4 <| And.intro ty5 <| And.intro ty24 <| And.intro ty26 <| And.intro ty34 <| And.intro ty35 <| And.intro ty37 <| Try.results59; repeat' first | ((with_reducible first | apply w_seq | apply w_region | apply wl_nil | apply wr_nil | apply wr_nilA | apply wr_nilE | apply go_normal | apply go_ret | apply go_exit | apply blk_normal | apply blk_ret | apply blk_here | apply w_block | apply w_skip | apply w_exit | apply w_label)) | ((with_reducible first | apply wz (tok Try.prog) | apply wr_z (tok Try.prog)); exact zZ; decide) | ((with_reducible first | apply wskip' | apply wr_skip); exact zU; exact zL; exact zU; decide) | ((with_reducible first | apply w_ift'); exact zV; exact zU) | ((with_reducible first | apply w_iff'); exact zV; exact zU) | fail
        all_goals try clear tE
        refine ⟨i + 1, by omega, ⟨by omega, by rw [hix]; simp [fidx, ht]⟩, ?_⟩
        (have tu0 : Pur _ := hfv; have tE := And.intro (@upd_upd AV) <| @upd_upd (Option Blk); exact kcanS [])
      · have hk' : (u.k != 0) = true := by simp [hk]
        by_cases hp : u.p = p
        · have hp' : (u.p == p) = true := by simp [hp]
          have ht : isAt p u = true := by simp [isAt, hk, hp]
          have tE := And.intro (@upd_upd AV) <| And.intro (@upd_upd (Option Blk)) <| And.intro h1 <| And.intro h0 <| And.intro hr <| And.intro hw <| And.intro hk' <| And.intro hp' <| And.intro Fs.cells.eq_1 <| And.intro frRows_len <| And.intro ty3 <| And.intro ty4 <| And.intro ty5 <| And.intro ty24 <| And.intro ty26 <| And.intro ty34 <| And.intro ty35 <| And.intro ty37 <| Try.results59; repeat' first | ((with_reducible first | apply w_seq | apply w_region | apply wl_nil | apply wr_nil | apply wr_nilA | apply wr_nilE | apply go_normal | apply go_ret | apply go_exit | apply blk_normal | apply blk_ret | apply blk_here | apply w_block | apply w_skip | apply w_exit | apply w_label)) | ((with_reducible first | apply wz (tok Try.prog) | apply wr_z (tok Try.prog)); exact zZ; decide) | ((with_reducible first | apply wzg (tok Try.prog) | apply wr_zg (tok Try.prog)); exact zU; exact zL; exact zU; exact zZ; decide) | ((with_reducible first | apply w_ift'); exact zV; exact zU) | ((with_reducible apply w_ret); (repeat (with_reducible first | apply go_ret | apply blk_ret)); (with_reducible apply done_ret (tok Try.prog)); exact zT; exact zD; exact zX) | fail
          all_goals try clear tE
          simp [tup, hix, fidx, ht]
        · have hp' : (u.p == p) = false := by simp [hp]
          have ht : isAt p u = false := by simp [isAt, hp]
          have tE := And.intro (@upd_upd AV) <| And.intro (@upd_upd (Option Blk)) <| And.intro h1 <| And.intro h0 <| And.intro hr <| And.intro hw <| And.intro hk' <| And.intro hp' <| And.intro Fs.cells.eq_1 <| And.intro frRows_len <| And.intro ty3 <| And.intro ty4 <| And.intro ty5 <| And.intro ty24 <| And.intro ty26 <| And.intro ty34 <| And.intro ty35 <| And.intro ty37 <| Try.results59; repeat' first | ((with_reducible first | apply w_seq | apply w_region | apply wl_nil | apply wr_nil | apply wr_nilA | apply wr_nilE | apply go_normal | apply go_ret | apply go_exit | apply blk_normal | apply blk_ret | apply blk_here | apply w_block | apply w_skip | apply w_exit | apply w_label)) | ((with_reducible first | apply wz (tok Try.prog) | apply wr_z (tok Try.prog)); exact zZ; decide) | ((with_reducible first | apply wzg (tok Try.prog) | apply wr_zg (tok Try.prog)); exact zU; exact zL; exact zU; exact zZ; decide) | ((with_reducible first | apply w_ift'); exact zV; exact zU) | ((with_reducible first | apply w_iff'); exact zV; exact zU) | fail
          all_goals try clear tE
          refine ⟨i + 1, by omega, ⟨by omega, by rw [hix]; simp [fidx, ht]⟩, ?_⟩
          (have tu0 : Pur _ := hfv; have tE := And.intro (@upd_upd AV) <| @upd_upd (Option Blk); exact kcanS [])
    · have h1 : ((i : Int) < (f.l.length : Int)) = False := by simp; omega
      have hd : f.l.drop i = [] := List.drop_eq_nil_iff.2 (by omega)
      rw [hd] at hix
      have tE := And.intro (@upd_upd AV) <| And.intro (@upd_upd (Option Blk)) <| And.intro h1 <| And.intro Fs.cells.eq_1 <| And.intro frRows_len <| And.intro ty3 <| And.intro ty4 <| And.intro ty5 <| And.intro ty24 <| And.intro ty26 <| And.intro ty34 <| And.intro ty35 <| And.intro ty37 <| Try.results59; repeat' first | ((with_reducible first | apply w_seq | apply w_region | apply wl_nil | apply wr_nil | apply wr_nilA | apply wr_nilE | apply go_normal | apply go_ret | apply go_exit | apply blk_normal | apply blk_ret | apply blk_here | apply w_block | apply w_skip | apply w_exit | apply w_label)) | ((with_reducible first | apply wz (tok Try.prog) | apply wr_z (tok Try.prog)); exact zZ; decide) | ((with_reducible first | apply w_iff'); exact zV; exact zU) | ((with_reducible apply w_ret); (repeat (with_reducible first | apply go_ret | apply blk_ret)); (with_reducible apply done_ret (tok Try.prog)); exact zT; exact zD; exact zX) | fail
      all_goals try clear tE
      rw [hix]; rfl
end Go.Proofs.Ytlmighkbeacjnaa
