/- The reference of frames: May, Check, Find. -/
import Derived.Test.YtlmighkbeacjnaaH2
open Go Go.Lg
set_option linter.unusedSimpArgs false
set_option linter.unusedVariables false
set_option maxHeartbeats 4000000
set_option maxRecDepth 20000
namespace Go.Proofs.Ytlmighkbeacjnaa
def apartTo (l : List Fr) (i : Nat) : Prop := ∀ (a b : Nat) x y, a < b → b < i → l[a]? = some x → l[b]? = some y → x.k ≠ 0 → y.k ≠ 0 → x.p ≠ y.p
theorem okL_to {c : Cf} {l : List Fr} (h1 : ∀ (j : Nat) u, j < l.length → l[j]? = some u → mayF c u = true) (h2 : apartTo l l.length) : okL c [] l = true := by
  refine okL_iff.2 ⟨fun x hx => ?_, fun x _ _ h => (by cases h), fun i j x y hij hx hy => h2 i j x y hij (List.getElem?_eq_some_iff.1 hy).1 hx hy⟩
  obtain ⟨j, hj, rfl⟩ := List.getElem_of_mem hx
  exact h1 j _ hj (List.getElem?_eq_getElem hj)
def sOk (c : Cf) (f : Fs) : Bool := decide ((f.l.length : Int) = c.fr) && decide (0 ≤ f.h) && decide (f.h < f.l.length)
theorem pf75 (c : Cf) (f : Fs) (hl : f.l.length ≤ 1000000) (hpl : ∀ x, x ∈ f.l → x.pins.length ≤ 1000000) : PF Try.prog 75 [.agg c.cells, .agg f.cells] (fun r => r = .bool (sOk c f && okL c [] f.l)) := by
  refine pf_of_w0 Try.func75 (c := _) rfl rfl (Nat.le_of_ble_eq_true rfl) (args_2 (cf_pur c) (fsa_pur f)) ?_
  rw [show Try.f75.ntmps = 77 from rfl]
  have hcv : Pur (.vptr c.cells) := .vptr (cells_pur c)
  have hfv : Pur (.vptr f.cells) := .vptr (fs_pur f)
  by_cases n1 : (f.l.length : Int) = c.fr
  · have m1 : ((f.l.length : Int) != c.fr) = false := by simp [n1]
    by_cases n2 : f.h < 0
    · have m2 : (f.h < 0) = True := eq_true n2
      have tE := And.intro (@upd_upd AV) <| And.intro (@upd_upd (Option Blk)) <| And.intro m1 <| And.intro m2 <| And.intro Fs.cells.eq_1 <| And.intro Cf.cells.eq_1 <| And.intro frRows_len <| And.intro ty3 <| And.intro ty4 <| And.intro ty5 <| And.intro ty23 <| And.intro ty24 <| And.intro ty26 <| And.intro ty34 <| And.intro ty35 <| And.intro ty37 <| Try.results75; repeat' first | ((with_reducible first | apply w_seq | apply w_region | apply wl_nil | apply wr_nil | apply wr_nilA | apply wr_nilE | apply go_normal | apply go_ret | apply go_exit | apply blk_normal | apply blk_ret | apply blk_here | apply w_block | apply w_skip | apply w_exit | apply w_label)) | ((with_reducible first | apply wz (tok Try.prog) | apply wr_z (tok Try.prog)); exact zZ; decide) | ((with_reducible first | apply wzg (tok Try.prog) | apply wr_zg (tok Try.prog)); exact zU; exact zL; exact zU; exact zZ; decide) | ((with_reducible first | apply wskip' | apply wr_skip); exact zU; exact zL; exact zU; decide) | ((with_reducible first | apply w_ift'); exact zV; exact zU) | ((with_reducible apply w_ret); (repeat (with_reducible first | apply go_ret | apply blk_ret)); (with_reducible apply done_ret (tok Try.prog)); exact zT; exact zD; exact zX) | fail
      all_goals try clear tE
      have : ¬ 0 ≤ f.h := by omega
      simp [tup, sOk, this]
    · have m2 : (f.h < 0) = False := eq_false n2
      by_cases n3 : f.h ≥ (f.l.length : Int)
      · have m3 : (f.h ≥ (f.l.length : Int)) = True := eq_true n3
        have tE := And.intro (@upd_upd AV) <| And.intro (@upd_upd (Option Blk)) <| And.intro m1 <| And.intro m2 <| And.intro m3 <| And.intro Fs.cells.eq_1 <| And.intro Cf.cells.eq_1 <| And.intro frRows_len <| And.intro ty3 <| And.intro ty4 <| And.intro ty5 <| And.intro ty23 <| And.intro ty24 <| And.intro ty26 <| And.intro ty34 <| And.intro ty35 <| And.intro ty37 <| Try.results75; repeat' first | ((with_reducible first | apply w_seq | apply w_region | apply wl_nil | apply wr_nil | apply wr_nilA | apply wr_nilE | apply go_normal | apply go_ret | apply go_exit | apply blk_normal | apply blk_ret | apply blk_here | apply w_block | apply w_skip | apply w_exit | apply w_label)) | ((with_reducible first | apply wz (tok Try.prog) | apply wr_z (tok Try.prog)); exact zZ; decide) | ((with_reducible first | apply wzg (tok Try.prog) | apply wr_zg (tok Try.prog)); exact zU; exact zL; exact zU; exact zZ; decide) | ((with_reducible first | apply w_ift'); exact zV; exact zU) | ((with_reducible apply w_ret); (repeat (with_reducible first | apply go_ret | apply blk_ret)); (with_reducible apply done_ret (tok Try.prog)); exact zT; exact zD; exact zX) | fail
        all_goals try clear tE
        have : ¬ f.h < (f.l.length : Int) := by omega
        simp [tup, sOk, this]
      · have m3 : (f.h ≥ (f.l.length : Int)) = False := eq_false n3
        have hs : sOk c f = true := by simp only [sOk, Bool.and_eq_true, decide_eq_true_eq]; omega
        rw [hs, Bool.true_and]
        have tE := And.intro (@upd_upd AV) <| And.intro (@upd_upd (Option Blk)) <| And.intro m1 <| And.intro m2 <| And.intro m3 <| And.intro Fs.cells.eq_1 <| And.intro Cf.cells.eq_1 <| And.intro frRows_len <| And.intro ty3 <| And.intro ty4 <| And.intro ty5 <| And.intro ty23 <| And.intro ty24 <| And.intro ty26 <| And.intro ty34 <| And.intro ty35 <| And.intro ty37 <| Try.results75; repeat' first | ((with_reducible first | apply w_seq | apply w_region | apply wl_nil | apply wr_nil | apply wr_nilA | apply wr_nilE | apply go_normal | apply go_ret | apply go_exit | apply blk_normal | apply blk_ret | apply blk_here | apply w_block | apply w_skip | apply w_exit | apply w_label)) | ((with_reducible first | apply wz (tok Try.prog) | apply wr_z (tok Try.prog)); exact zZ; decide) | ((with_reducible first | apply wzg (tok Try.prog) | apply wr_zg (tok Try.prog)); exact zU; exact zL; exact zU; exact zZ; decide) | ((with_reducible first | apply w_iff'); exact zV; exact zU) | fail
        all_goals try clear tE
        refine w_loopS (S := Nat) (fun i => [(2, .vptr c.cells), (3, .vptr f.cells), (5, .int .i64 (i : Int))]) (fun _ => []) [] (fun i => i ≤ f.l.length ∧ (∀ (j : Nat) u, j < i → f.l[j]? = some u → mayF c u = true) ∧ apartTo f.l i) (fun i => f.l.length - i) 0 ?_ ⟨Nat.zero_le _, (fun j u hj => by omega), (fun a b x y h1 h2 => by omega)⟩ ?_
        · (have tu0 : Pur _ := hcv; have tu1 : Pur _ := hfv; have tE := And.intro (@upd_upd AV) <| @upd_upd (Option Blk); exact kcanS [])
        · rintro i ⟨hi, hm, ha⟩
          simp only [St.ofS, List.length_nil]
          have hw : IntKind.i64.wrap ((i : Int) + 1) = ((i + 1 : Nat) : Int) := by rw [wrap64 (by omega) (by omega)]; rfl
          by_cases e : i < f.l.length
          · have h1 : ((i : Int) < (f.l.length : Int)) = True := by simp; omega
            have h0 : (0 ≤ (i : Int)) = True := by simp
            obtain ⟨u, hu⟩ : ∃ u, f.l[i]? = some u := ⟨f.l[i], List.getElem?_eq_getElem e⟩
            have hr := fr_row hu
            have h96 := pf96 c u (hpl u (List.mem_of_getElem? hu))
            cases hmu : mayF c u with
            | false =>
              rw [hmu] at h96
              have tE := And.intro (@upd_upd AV) <| And.intro (@upd_upd (Option Blk)) <| And.intro h1 <| And.intro h0 <| And.intro hr <| And.intro Cf.cells.eq_1 <| And.intro Fr.cells.eq_1 <| And.intro Fs.cells.eq_1 <| And.intro frRows_len <| And.intro ty3 <| And.intro ty4 <| And.intro ty5 <| And.intro ty23 <| And.intro ty24 <| And.intro ty26 <| And.intro ty34 <| And.intro ty35 <| And.intro ty37 <| Try.results75; repeat' first | ((with_reducible first | apply w_seq | apply w_region | apply wl_nil | apply wr_nil | apply wr_nilA | apply wr_nilE | apply go_normal | apply go_ret | apply go_exit | apply blk_normal | apply blk_ret | apply blk_here | apply w_block | apply w_skip | apply w_exit | apply w_label)) | ((with_reducible apply w_live (lvAt [[0, 1], [2, 3], [], [2, 3], [2, 3, 5], [2, 3, 5], [2, 3, 5], [], [2, 3, 5], [2, 3, 5, 6], [2, 3, 5, 6], [2, 3, 5, 6], [], []])); (focus (simp only [lvAt_zero, lvAt_succ]; rfl)); exact zLv) | ((with_reducible first | apply wz (tok Try.prog) | apply wr_z (tok Try.prog)); exact zZ; decide) | ((with_reducible first | apply wcall' | apply wr_call); exact zV; exact zVs; exact zAs; (focus (with_unfolding_all first | exact h96)); decide) | ((with_reducible first | apply w_ift'); exact zV; exact zU) | ((with_reducible first | apply w_draw0 mixed); (focus (decide +kernel))) | ((with_reducible apply w_ret); (repeat (with_reducible first | apply go_ret | apply blk_ret)); (with_reducible apply done_ret (tok Try.prog)); exact zT; exact zD; exact zX) | fail
              all_goals try clear tE
              have : okL c [] f.l = false := by
                cases hk : okL c [] f.l with
                | false => rfl
                | true => rw [(okL_iff.1 hk).1 u (List.mem_of_getElem? hu)] at hmu; cases hmu
              simp [tup, this]
            | true =>
              rw [hmu] at h96
              have tE := And.intro (@upd_upd AV) <| And.intro (@upd_upd (Option Blk)) <| And.intro h1 <| And.intro h0 <| And.intro hr <| And.intro Cf.cells.eq_1 <| And.intro Fr.cells.eq_1 <| And.intro Fs.cells.eq_1 <| And.intro frRows_len <| And.intro ty3 <| And.intro ty4 <| And.intro ty5 <| And.intro ty23 <| And.intro ty24 <| And.intro ty26 <| And.intro ty34 <| And.intro ty35 <| And.intro ty37 <| Try.results75; repeat' first | ((with_reducible first | apply w_seq | apply w_region | apply wl_nil | apply wr_nil | apply wr_nilA | apply wr_nilE | apply go_normal | apply go_ret | apply go_exit | apply blk_normal | apply blk_ret | apply blk_here | apply w_block | apply w_skip | apply w_exit | apply w_label)) | ((with_reducible apply w_live (lvAt [[0, 1], [2, 3], [], [2, 3], [2, 3, 5], [2, 3, 5], [2, 3, 5], [], [2, 3, 5], [2, 3, 5, 6], [2, 3, 5, 6], [2, 3, 5, 6], [], []])); (focus (simp only [lvAt_zero, lvAt_succ]; rfl)); exact zLv) | ((with_reducible first | apply wz (tok Try.prog) | apply wr_z (tok Try.prog)); exact zZ; decide) | ((with_reducible first | apply wcall' | apply wr_call); exact zV; exact zVs; exact zAs; (focus (with_unfolding_all first | exact h96)); decide) | ((with_reducible first | apply w_ift'); exact zV; exact zU) | ((with_reducible first | apply w_iff'); exact zV; exact zU) | ((with_reducible first | apply w_draw0 mixed); (focus (decide +kernel))) | fail
              all_goals try clear tE
              refine w_loopS (S := Nat) (fun j => [(2, .vptr c.cells), (3, .vptr f.cells), (5, .int .i64 (i : Int)), (6, .int .i64 (j : Int))]) (fun _ => []) [] (fun j => j ≤ i ∧ ∀ (a : Nat) x, a < j → f.l[a]? = some x → x.k ≠ 0 → u.k ≠ 0 → x.p ≠ u.p) (fun j => i - j) 0 ?_ ⟨Nat.zero_le _, (fun a x h => by omega)⟩ ?_
              · (have tu0 : Pur _ := hcv; have tu1 : Pur _ := hfv; have tE := And.intro (@upd_upd AV) <| @upd_upd (Option Blk); exact kcanS [])
              · rintro j ⟨hj, hq⟩
                simp only [St.ofS, List.length_nil]
                have hwj : IntKind.i64.wrap ((j : Int) + 1) = ((j + 1 : Nat) : Int) := by rw [wrap64 (by omega) (by omega)]; rfl
                by_cases ej : j < i
                · have h1j : ((j : Int) < (i : Int)) = True := by simp; omega
                  have h2j : ((j : Int) < (f.l.length : Int)) = True := by simp; omega
                  have h0j : (0 ≤ (j : Int)) = True := by simp
                  obtain ⟨x, hx⟩ : ∃ x, f.l[j]? = some x := ⟨f.l[j]'(by omega), List.getElem?_eq_getElem _⟩
                  have hrj := fr_row hx
                  by_cases hk : u.k = 0
                  · have hk' : (u.k != 0) = false := by simp [hk]
                    have tE := And.intro (@upd_upd AV) <| And.intro (@upd_upd (Option Blk)) <| And.intro h1 <| And.intro h0 <| And.intro hr <| And.intro h1j <| And.intro h2j <| And.intro h0j <| And.intro hrj <| And.intro hwj <| And.intro hk' <| And.intro Cf.cells.eq_1 <| And.intro Fs.cells.eq_1 <| And.intro frRows_len <| And.intro ty3 <| And.intro ty4 <| And.intro ty5 <| And.intro ty23 <| And.intro ty24 <| And.intro ty26 <| And.intro ty34 <| And.intro ty35 <| And.intro ty37 <| Try.results75; repeat' first | ((with_reducible first | apply w_seq | apply w_region | apply wl_nil | apply wr_nil | apply wr_nilA | apply wr_nilE | apply go_normal | apply go_ret | apply go_exit | apply blk_normal | apply blk_ret | apply blk_here | apply w_block | apply w_skip | apply w_exit | apply w_label)) | ((with_reducible apply w_live (lvAt [[0, 1], [2, 3], [], [2, 3], [2, 3, 5], [2, 3, 5], [2, 3, 5], [], [2, 3, 5], [2, 3, 5, 6], [2, 3, 5, 6], [2, 3, 5, 6], [], []])); (focus (simp only [lvAt_zero, lvAt_succ]; rfl)); exact zLv) | ((with_reducible first | apply wz (tok Try.prog) | apply wr_z (tok Try.prog)); exact zZ; decide) | ((with_reducible first | apply wskip' | apply wr_skip); exact zU; exact zL; exact zU; decide) | ((with_reducible first | apply w_ift'); exact zV; exact zU) | ((with_reducible first | apply w_iff'); exact zV; exact zU) | ((with_reducible first | apply w_draw0 mixed); (focus (decide +kernel))) | fail
                    all_goals try clear tE
                    refine ⟨j + 1, by omega, ⟨by omega, fun a y _ _ _ h => absurd hk h⟩, ?_⟩
                    (have tu0 : Pur _ := hcv; have tu1 : Pur _ := hfv; have tE := And.intro (@upd_upd AV) <| @upd_upd (Option Blk); exact kcanS [])
                  · have hk' : (u.k != 0) = true := by simp [hk]
                    by_cases hkx : x.k = 0
                    · have hkx' : (x.k != 0) = false := by simp [hkx]
                      have tE := And.intro (@upd_upd AV) <| And.intro (@upd_upd (Option Blk)) <| And.intro h1 <| And.intro h0 <| And.intro hr <| And.intro h1j <| And.intro h2j <| And.intro h0j <| And.intro hrj <| And.intro hwj <| And.intro hk' <| And.intro hkx' <| And.intro Cf.cells.eq_1 <| And.intro Fs.cells.eq_1 <| And.intro frRows_len <| And.intro ty3 <| And.intro ty4 <| And.intro ty5 <| And.intro ty23 <| And.intro ty24 <| And.intro ty26 <| And.intro ty34 <| And.intro ty35 <| And.intro ty37 <| Try.results75; repeat' first | ((with_reducible first | apply w_seq | apply w_region | apply wl_nil | apply wr_nil | apply wr_nilA | apply wr_nilE | apply go_normal | apply go_ret | apply go_exit | apply blk_normal | apply blk_ret | apply blk_here | apply w_block | apply w_skip | apply w_exit | apply w_label)) | ((with_reducible apply w_live (lvAt [[0, 1], [2, 3], [], [2, 3], [2, 3, 5], [2, 3, 5], [2, 3, 5], [], [2, 3, 5], [2, 3, 5, 6], [2, 3, 5, 6], [2, 3, 5, 6], [], []])); (focus (simp only [lvAt_zero, lvAt_succ]; rfl)); exact zLv) | ((with_reducible first | apply wz (tok Try.prog) | apply wr_z (tok Try.prog)); exact zZ; decide) | ((with_reducible first | apply wzg (tok Try.prog) | apply wr_zg (tok Try.prog)); exact zU; exact zL; exact zU; exact zZ; decide) | ((with_reducible first | apply wskip' | apply wr_skip); exact zU; exact zL; exact zU; decide) | ((with_reducible first | apply w_ift'); exact zV; exact zU) | ((with_reducible first | apply w_iff'); exact zV; exact zU) | ((with_reducible first | apply w_draw0 mixed); (focus (decide +kernel))) | fail
                      all_goals try clear tE
                      refine ⟨j + 1, by omega, ⟨by omega, fun a y ha' hy hyk huk => ?_⟩, ?_⟩
                      · rcases Nat.lt_or_ge a j with h | h
                        · exact hq a y h hy hyk huk
                        · have : a = j := by omega
                          subst this; rw [hx] at hy; cases hy; exact absurd hkx hyk
                      · (have tu0 : Pur _ := hcv; have tu1 : Pur _ := hfv; have tE := And.intro (@upd_upd AV) <| @upd_upd (Option Blk); exact kcanS [])
                    · have hkx' : (x.k != 0) = true := by simp [hkx]
                      by_cases hp : u.p = x.p
                      · have hp' : (u.p == x.p) = true := by simp [hp]
                        have tE := And.intro (@upd_upd AV) <| And.intro (@upd_upd (Option Blk)) <| And.intro h1 <| And.intro h0 <| And.intro hr <| And.intro h1j <| And.intro h2j <| And.intro h0j <| And.intro hrj <| And.intro hwj <| And.intro hk' <| And.intro hkx' <| And.intro hp' <| And.intro Cf.cells.eq_1 <| And.intro Fs.cells.eq_1 <| And.intro frRows_len <| And.intro ty3 <| And.intro ty4 <| And.intro ty5 <| And.intro ty23 <| And.intro ty24 <| And.intro ty26 <| And.intro ty34 <| And.intro ty35 <| And.intro ty37 <| Try.results75; repeat' first | ((with_reducible first | apply w_seq | apply w_region | apply wl_nil | apply wr_nil | apply wr_nilA | apply wr_nilE | apply go_normal | apply go_ret | apply go_exit | apply blk_normal | apply blk_ret | apply blk_here | apply w_block | apply w_skip | apply w_exit | apply w_label)) | ((with_reducible apply w_live (lvAt [[0, 1], [2, 3], [], [2, 3], [2, 3, 5], [2, 3, 5], [2, 3, 5], [], [2, 3, 5], [2, 3, 5, 6], [2, 3, 5, 6], [2, 3, 5, 6], [], []])); (focus (simp only [lvAt_zero, lvAt_succ]; rfl)); exact zLv) | ((with_reducible first | apply wz (tok Try.prog) | apply wr_z (tok Try.prog)); exact zZ; decide) | ((with_reducible first | apply wzg (tok Try.prog) | apply wr_zg (tok Try.prog)); exact zU; exact zL; exact zU; exact zZ; decide) | ((with_reducible first | apply w_ift'); exact zV; exact zU) | ((with_reducible first | apply w_draw0 mixed); (focus (decide +kernel))) | ((with_reducible apply w_ret); (repeat (with_reducible first | apply go_ret | apply blk_ret)); (with_reducible apply done_ret (tok Try.prog)); exact zT; exact zD; exact zX) | fail
                        all_goals try clear tE
                        have : okL c [] f.l = false := by
                          cases hkk : okL c [] f.l with
                          | false => rfl
                          | true => exact absurd hp.symm ((okL_iff.1 hkk).2.2 j i x u ej hx hu hkx hk)
                        simp [tup, this]
                      · have hp' : (u.p == x.p) = false := by simp [hp]
                        have tE := And.intro (@upd_upd AV) <| And.intro (@upd_upd (Option Blk)) <| And.intro h1 <| And.intro h0 <| And.intro hr <| And.intro h1j <| And.intro h2j <| And.intro h0j <| And.intro hrj <| And.intro hwj <| And.intro hk' <| And.intro hkx' <| And.intro hp' <| And.intro Cf.cells.eq_1 <| And.intro Fs.cells.eq_1 <| And.intro frRows_len <| And.intro ty3 <| And.intro ty4 <| And.intro ty5 <| And.intro ty23 <| And.intro ty24 <| And.intro ty26 <| And.intro ty34 <| And.intro ty35 <| And.intro ty37 <| Try.results75; repeat' first | ((with_reducible first | apply w_seq | apply w_region | apply wl_nil | apply wr_nil | apply wr_nilA | apply wr_nilE | apply go_normal | apply go_ret | apply go_exit | apply blk_normal | apply blk_ret | apply blk_here | apply w_block | apply w_skip | apply w_exit | apply w_label)) | ((with_reducible apply w_live (lvAt [[0, 1], [2, 3], [], [2, 3], [2, 3, 5], [2, 3, 5], [2, 3, 5], [], [2, 3, 5], [2, 3, 5, 6], [2, 3, 5, 6], [2, 3, 5, 6], [], []])); (focus (simp only [lvAt_zero, lvAt_succ]; rfl)); exact zLv) | ((with_reducible first | apply wz (tok Try.prog) | apply wr_z (tok Try.prog)); exact zZ; decide) | ((with_reducible first | apply wzg (tok Try.prog) | apply wr_zg (tok Try.prog)); exact zU; exact zL; exact zU; exact zZ; decide) | ((with_reducible first | apply w_ift'); exact zV; exact zU) | ((with_reducible first | apply w_iff'); exact zV; exact zU) | ((with_reducible first | apply w_draw0 mixed); (focus (decide +kernel))) | fail
                        all_goals try clear tE
                        refine ⟨j + 1, by omega, ⟨by omega, fun a y ha' hy hyk huk => ?_⟩, ?_⟩
                        · rcases Nat.lt_or_ge a j with h | h
                          · exact hq a y h hy hyk huk
                          · have : a = j := by omega
                            subst this; rw [hx] at hy; cases hy; exact fun h => hp h.symm
                        · (have tu0 : Pur _ := hcv; have tu1 : Pur _ := hfv; have tE := And.intro (@upd_upd AV) <| @upd_upd (Option Blk); exact kcanS [])
                · have h1j : ((j : Int) < (i : Int)) = False := by simp; omega
                  have ej' : j = i := by omega
                  subst ej'
                  have tE := And.intro (@upd_upd AV) <| And.intro (@upd_upd (Option Blk)) <| And.intro h1j <| And.intro hw <| And.intro Cf.cells.eq_1 <| And.intro Fs.cells.eq_1 <| And.intro frRows_len <| And.intro ty3 <| And.intro ty4 <| And.intro ty5 <| And.intro ty23 <| And.intro ty24 <| And.intro ty26 <| And.intro ty34 <| And.intro ty35 <| And.intro ty37 <| Try.results75; repeat' first | ((with_reducible first | apply w_seq | apply w_region | apply wl_nil | apply wr_nil | apply wr_nilA | apply wr_nilE | apply go_normal | apply go_ret | apply go_exit | apply blk_normal | apply blk_ret | apply blk_here | apply w_block | apply w_skip | apply w_exit | apply w_label)) | ((with_reducible first | apply wz (tok Try.prog) | apply wr_z (tok Try.prog)); exact zZ; decide) | ((with_reducible first | apply w_iff'); exact zV; exact zU) | fail
                  all_goals try clear tE
                  refine ⟨j + 1, by omega, ⟨by omega, fun a v ha' hv => ?_, fun a b x y hab hb hx hy => ?_⟩, ?_⟩
                  · rcases Nat.lt_or_ge a j with h | h
                    · exact hm a v h hv
                    · have : a = j := by omega
                      subst this; rw [hu] at hv; cases hv; exact hmu
                  · rcases Nat.lt_or_ge b j with h | h
                    · exact ha a b x y hab h hx hy
                    · have : b = j := by omega
                      subst this; rw [hu] at hy; cases hy; exact hq a x hab hx
                  · (have tu0 : Pur _ := hcv; have tu1 : Pur _ := hfv; have tE := And.intro (@upd_upd AV) <| @upd_upd (Option Blk); exact kcanS [])
          · have h1 : ((i : Int) < (f.l.length : Int)) = False := by simp; omega
            have ei : i = f.l.length := by omega
            subst ei
            have tE := And.intro (@upd_upd AV) <| And.intro (@upd_upd (Option Blk)) <| And.intro h1 <| And.intro Cf.cells.eq_1 <| And.intro Fs.cells.eq_1 <| And.intro frRows_len <| And.intro ty3 <| And.intro ty4 <| And.intro ty5 <| And.intro ty23 <| And.intro ty24 <| And.intro ty26 <| And.intro ty34 <| And.intro ty35 <| And.intro ty37 <| Try.results75; repeat' first | ((with_reducible first | apply w_seq | apply w_region | apply wl_nil | apply wr_nil | apply wr_nilA | apply wr_nilE | apply go_normal | apply go_ret | apply go_exit | apply blk_normal | apply blk_ret | apply blk_here | apply w_block | apply w_skip | apply w_exit | apply w_label)) | ((with_reducible first | apply wz (tok Try.prog) | apply wr_z (tok Try.prog)); exact zZ; decide) | ((with_reducible first | apply w_iff'); exact zV; exact zU) | ((with_reducible apply w_ret); (repeat (with_reducible first | apply go_ret | apply blk_ret)); (with_reducible apply done_ret (tok Try.prog)); exact zT; exact zD; exact zX) | fail
            all_goals try clear tE
            rw [okL_to hm ha]; rfl
  · have m1 : ((f.l.length : Int) != c.fr) = true := by simp [n1]
    have tE := And.intro (@upd_upd AV) <| And.intro (@upd_upd (Option Blk)) <| And.intro m1 <| And.intro Fs.cells.eq_1 <| And.intro Cf.cells.eq_1 <| And.intro frRows_len <| And.intro ty3 <| And.intro ty4 <| And.intro ty5 <| And.intro ty23 <| And.intro ty24 <| And.intro ty26 <| And.intro ty34 <| And.intro ty35 <| And.intro ty37 <| Try.results75; repeat' first | ((with_reducible first | apply w_seq | apply w_region | apply wl_nil | apply wr_nil | apply wr_nilA | apply wr_nilE | apply go_normal | apply go_ret | apply go_exit | apply blk_normal | apply blk_ret | apply blk_here | apply w_block | apply w_skip | apply w_exit | apply w_label)) | ((with_reducible first | apply wz (tok Try.prog) | apply wr_z (tok Try.prog)); exact zZ; decide) | ((with_reducible first | apply wskip' | apply wr_skip); exact zU; exact zL; exact zU; decide) | ((with_reducible first | apply w_ift'); exact zV; exact zU) | ((with_reducible apply w_ret); (repeat (with_reducible first | apply go_ret | apply blk_ret)); (with_reducible apply done_ret (tok Try.prog)); exact zT; exact zD; exact zX) | fail
    all_goals try clear tE
    simp [tup, sOk, n1]
theorem okF_sOk (c : Cf) (f : Fs) : okF c f = (c.good && (sOk c f && okL c [] f.l)) := by
  simp only [okF, okS, sOk, Bool.and_assoc]
theorem pf37 (c : Cf) (f : Fs) (hl : f.l.length ≤ 1000000) (hpl : ∀ x, x ∈ f.l → x.pins.length ≤ 1000000) : PF Try.prog 37 [.agg c.cells, .agg f.cells] (fun r => r = .int .i64 (eF c f)) := by
  have h70 := pf70 c
  have h75 := pf75 c f hl hpl
  rw [eF, okF_sOk]
  generalize (sOk c f && okL c [] f.l) = b at h75
  refine pf_of_w0 Try.func37 (c := _) rfl rfl (Nat.le_of_ble_eq_true rfl) (args_2 (cf_pur c) (fsa_pur f)) ?_
  rw [show Try.f37.ntmps = 14 from rfl]
  cases hg : c.good <;> rw [hg] at h70 <;> cases b
  all_goals
    have tE := And.intro (@upd_upd AV) <| And.intro (@upd_upd (Option Blk)) <| And.intro Cf.cells.eq_1 <| And.intro Fs.cells.eq_1 <| And.intro ty3 <| And.intro ty4 <| And.intro ty5 <| And.intro ty23 <| And.intro ty24 <| And.intro ty26 <| And.intro ty34 <| And.intro ty35 <| And.intro ty37 <| Try.results37; repeat' first | ((with_reducible first | apply w_seq | apply w_region | apply wl_nil | apply wr_nil | apply wr_nilA | apply wr_nilE | apply go_normal | apply go_ret | apply go_exit | apply blk_normal | apply blk_ret | apply blk_here | apply w_block | apply w_skip | apply w_exit | apply w_label)) | ((with_reducible first | apply wz (tok Try.prog) | apply wr_z (tok Try.prog)); exact zZ; decide) | ((with_reducible first | apply wzg (tok Try.prog) | apply wr_zg (tok Try.prog)); exact zU; exact zL; exact zU; exact zZ; decide) | ((with_reducible first | apply wskip' | apply wr_skip); exact zU; exact zL; exact zU; decide) | ((with_reducible first | apply wcall' | apply wr_call); exact zV; exact zVs; exact zAs; (focus (with_unfolding_all first | exact h70 | exact h75)); decide) | ((with_reducible first | apply wcallg' | apply wr_callg); exact zU; exact zL; exact zU; exact zV; exact zVs; exact zAs; (focus (with_unfolding_all first | exact h70 | exact h75)); decide) | ((with_reducible first | apply w_ift'); exact zV; exact zU) | ((with_reducible first | apply w_iff'); exact zV; exact zU) | ((with_reducible apply w_ret); (repeat (with_reducible first | apply go_ret | apply blk_ret)); (with_reducible apply done_ret (tok Try.prog)); exact zT; exact zD; exact zX) | fail
    all_goals try clear tE
    rfl
end Go.Proofs.Ytlmighkbeacjnaa
