/- Great frames; equal frames. -/
import Derived.Test.YtlmighkbeacjnaaF3
open Go Go.Lg
set_option linter.unusedSimpArgs false
set_option linter.unusedVariables false
set_option maxHeartbeats 4000000
namespace Go.Proofs.Ytlmighkbeacjnaa
def bigF (x : Fr) : Bool := decide (x.d.length > 100) || decide (x.pins.length > 20)
def greatF (l : List Fr) : Bool := (l.take 20).any bigF || decide (l.length > 20)
theorem pf10 (f : Fs) : PF Try.prog 10 [.agg f.cells] (fun r => r = .bool (greatF f.l)) := by
  refine pf_of_w0 Try.func10 (c := _) rfl rfl (Nat.le_of_ble_eq_true rfl) (args_1 (fsa_pur f)) ?_
  rw [show Try.f10.ntmps = 37 from rfl]
  have hcv : Pur (.vptr f.cells) := .vptr (fs_pur f)
  have tE := And.intro (@upd_upd AV) <| And.intro (@upd_upd (Option Blk)) <| And.intro Fs.cells.eq_1 <| And.intro frRows_len <| And.intro ty3 <| And.intro ty4 <| And.intro ty5 <| And.intro ty24 <| And.intro ty26 <| And.intro ty34 <| And.intro ty35 <| And.intro ty37 <| Try.results10; repeat' first | ((with_reducible first | apply w_seq | apply w_region | apply wl_nil | apply wr_nil | apply wr_nilA | apply wr_nilE | apply go_normal | apply go_ret | apply go_exit | apply blk_normal | apply blk_ret | apply blk_here | apply w_block | apply w_skip | apply w_exit | apply w_label)) | ((with_reducible first | apply wz (tok Try.prog) | apply wr_z (tok Try.prog)); exact zZ; decide) | fail
  all_goals try clear tE
  refine w_loopS (S := Nat) (fun i => [(1, .vptr f.cells), (3, .int .i64 (i : Int))]) (fun _ => []) [] (fun i => i ≤ f.l.length ∧ i ≤ 20 ∧ (f.l.take 20).any bigF = ((f.l.take 20).drop i).any bigF) (fun i => 20 - i) 0 ?_ ⟨Nat.zero_le _, by decide, rfl⟩ ?_
  · (have tu0 : Pur _ := hcv; have tE := And.intro (@upd_upd AV) <| @upd_upd (Option Blk); exact kcanS [])
  · rintro i ⟨hi, hi20, hix⟩
    simp only [St.ofS, List.length_nil]
    have hw : IntKind.i64.wrap ((i : Int) + 1) = ((i + 1 : Nat) : Int) := by rw [wrap64 (by omega) (by omega)]; rfl
    by_cases e : i < f.l.length
    · have h1 : ((i : Int) < (f.l.length : Int)) = True := by simp; omega
      by_cases e4 : i < 20
      · have h4 : ((i : Int) < 20) = True := by simp; omega
        have h0 : (0 ≤ (i : Int)) = True := by simp
        obtain ⟨u, hu⟩ : ∃ u, f.l[i]? = some u := ⟨f.l[i], List.getElem?_eq_getElem e⟩
        have hr := fr_row hu
        have hu4 : (f.l.take 20)[i]? = some u := by rw [List.getElem?_take, if_pos e4]; exact hu
        have el4 : i < (f.l.take 20).length := by rw [List.length_take]; omega
        have hd : (f.l.take 20).drop i = u :: (f.l.take 20).drop (i + 1) := by rw [List.drop_eq_getElem_cons el4]; rw [List.getElem?_eq_getElem el4] at hu4; cases hu4; rfl
        rw [hd, List.any_cons] at hix
        by_cases hb : (u.d.length : Int) > 100
        · have hb' : ((u.d.length : Int) > 100) = True := eq_true hb
          have tE := And.intro (@upd_upd AV) <| And.intro (@upd_upd (Option Blk)) <| And.intro h1 <| And.intro h4 <| And.intro h0 <| And.intro hr <| And.intro hw <| And.intro hb' <| And.intro Fs.cells.eq_1 <| And.intro frRows_len <| And.intro byteRows_len <| And.intro intRows_len <| And.intro ty3 <| And.intro ty4 <| And.intro ty5 <| And.intro ty24 <| And.intro ty26 <| And.intro ty34 <| And.intro ty35 <| And.intro ty37 <| Try.results10; repeat' first | ((with_reducible first | apply w_seq | apply w_region | apply wl_nil | apply wr_nil | apply wr_nilA | apply wr_nilE | apply go_normal | apply go_ret | apply go_exit | apply blk_normal | apply blk_ret | apply blk_here | apply w_block | apply w_skip | apply w_exit | apply w_label)) | ((with_reducible first | apply wz (tok Try.prog) | apply wr_z (tok Try.prog)); exact zZ; decide) | ((with_reducible first | apply wzg (tok Try.prog) | apply wr_zg (tok Try.prog)); exact zU; exact zL; exact zU; exact zZ; decide) | ((with_reducible first | apply wskip' | apply wr_skip); exact zU; exact zL; exact zU; decide) | ((with_reducible first | apply w_ift'); exact zV; exact zU) | ((with_reducible apply w_ret); (repeat (with_reducible first | apply go_ret | apply blk_ret)); (with_reducible apply done_ret (tok Try.prog)); exact zT; exact zD; exact zX) | fail
          all_goals try clear tE
          have : bigF u = true := by simp [bigF]; omega
          simp [tup, greatF, hix, this]
        · have hb' : ((u.d.length : Int) > 100) = False := eq_false hb
          by_cases hc : (u.pins.length : Int) > 20
          · have hc' : ((u.pins.length : Int) > 20) = True := eq_true hc
            have tE := And.intro (@upd_upd AV) <| And.intro (@upd_upd (Option Blk)) <| And.intro h1 <| And.intro h4 <| And.intro h0 <| And.intro hr <| And.intro hw <| And.intro hb' <| And.intro hc' <| And.intro Fs.cells.eq_1 <| And.intro frRows_len <| And.intro byteRows_len <| And.intro intRows_len <| And.intro ty3 <| And.intro ty4 <| And.intro ty5 <| And.intro ty24 <| And.intro ty26 <| And.intro ty34 <| And.intro ty35 <| And.intro ty37 <| Try.results10; repeat' first | ((with_reducible first | apply w_seq | apply w_region | apply wl_nil | apply wr_nil | apply wr_nilA | apply wr_nilE | apply go_normal | apply go_ret | apply go_exit | apply blk_normal | apply blk_ret | apply blk_here | apply w_block | apply w_skip | apply w_exit | apply w_label)) | ((with_reducible first | apply wz (tok Try.prog) | apply wr_z (tok Try.prog)); exact zZ; decide) | ((with_reducible first | apply wzg (tok Try.prog) | apply wr_zg (tok Try.prog)); exact zU; exact zL; exact zU; exact zZ; decide) | ((with_reducible first | apply w_ift'); exact zV; exact zU) | ((with_reducible apply w_ret); (repeat (with_reducible first | apply go_ret | apply blk_ret)); (with_reducible apply done_ret (tok Try.prog)); exact zT; exact zD; exact zX) | fail
            all_goals try clear tE
            have : bigF u = true := by simp [bigF]; omega
            simp [tup, greatF, hix, this]
          · have hc' : ((u.pins.length : Int) > 20) = False := eq_false hc
            have tE := And.intro (@upd_upd AV) <| And.intro (@upd_upd (Option Blk)) <| And.intro h1 <| And.intro h4 <| And.intro h0 <| And.intro hr <| And.intro hw <| And.intro hb' <| And.intro hc' <| And.intro Fs.cells.eq_1 <| And.intro frRows_len <| And.intro byteRows_len <| And.intro intRows_len <| And.intro ty3 <| And.intro ty4 <| And.intro ty5 <| And.intro ty24 <| And.intro ty26 <| And.intro ty34 <| And.intro ty35 <| And.intro ty37 <| Try.results10; repeat' first | ((with_reducible first | apply w_seq | apply w_region | apply wl_nil | apply wr_nil | apply wr_nilA | apply wr_nilE | apply go_normal | apply go_ret | apply go_exit | apply blk_normal | apply blk_ret | apply blk_here | apply w_block | apply w_skip | apply w_exit | apply w_label)) | ((with_reducible first | apply wz (tok Try.prog) | apply wr_z (tok Try.prog)); exact zZ; decide) | ((with_reducible first | apply wzg (tok Try.prog) | apply wr_zg (tok Try.prog)); exact zU; exact zL; exact zU; exact zZ; decide) | ((with_reducible first | apply w_ift'); exact zV; exact zU) | ((with_reducible first | apply w_iff'); exact zV; exact zU) | fail
            all_goals try clear tE
            have : bigF u = false := by simp [bigF]; omega
            refine ⟨i + 1, by omega, ⟨by omega, by omega, by rw [hix]; simp [this]⟩, ?_⟩
            (have tu0 : Pur _ := hcv; have tE := And.intro (@upd_upd AV) <| @upd_upd (Option Blk); exact kcanS [])
      · have h4 : ((i : Int) < 20) = False := by simp; omega
        have hd : (f.l.take 20).drop i = [] := List.drop_eq_nil_iff.2 (by rw [List.length_take]; omega)
        rw [hd] at hix
        have tE := And.intro (@upd_upd AV) <| And.intro (@upd_upd (Option Blk)) <| And.intro h1 <| And.intro h4 <| And.intro Fs.cells.eq_1 <| And.intro frRows_len <| And.intro ty3 <| And.intro ty4 <| And.intro ty5 <| And.intro ty24 <| And.intro ty26 <| And.intro ty34 <| And.intro ty35 <| And.intro ty37 <| Try.results10; repeat' first | ((with_reducible first | apply w_seq | apply w_region | apply wl_nil | apply wr_nil | apply wr_nilA | apply wr_nilE | apply go_normal | apply go_ret | apply go_exit | apply blk_normal | apply blk_ret | apply blk_here | apply w_block | apply w_skip | apply w_exit | apply w_label)) | ((with_reducible first | apply wz (tok Try.prog) | apply wr_z (tok Try.prog)); exact zZ; decide) | ((with_reducible first | apply wzg (tok Try.prog) | apply wr_zg (tok Try.prog)); exact zU; exact zL; exact zU; exact zZ; decide) | ((with_reducible first | apply w_iff'); exact zV; exact zU) | ((with_reducible apply w_ret); (repeat (with_reducible first | apply go_ret | apply blk_ret)); (with_reducible apply done_ret (tok Try.prog)); exact zT; exact zD; exact zX) | fail
        all_goals try clear tE
        simp only [tup, greatF, hix, List.any_nil, Bool.false_or]
        congr 1
        exact decide_eq_decide.2 (by omega)
    · have h1 : ((i : Int) < (f.l.length : Int)) = False := by simp; omega
      have hd : (f.l.take 20).drop i = [] := List.drop_eq_nil_iff.2 (by rw [List.length_take]; omega)
      rw [hd] at hix
      have tE := And.intro (@upd_upd AV) <| And.intro (@upd_upd (Option Blk)) <| And.intro h1 <| And.intro Fs.cells.eq_1 <| And.intro frRows_len <| And.intro ty3 <| And.intro ty4 <| And.intro ty5 <| And.intro ty24 <| And.intro ty26 <| And.intro ty34 <| And.intro ty35 <| And.intro ty37 <| Try.results10; repeat' first | ((with_reducible first | apply w_seq | apply w_region | apply wl_nil | apply wr_nil | apply wr_nilA | apply wr_nilE | apply go_normal | apply go_ret | apply go_exit | apply blk_normal | apply blk_ret | apply blk_here | apply w_block | apply w_skip | apply w_exit | apply w_label)) | ((with_reducible first | apply wz (tok Try.prog) | apply wr_z (tok Try.prog)); exact zZ; decide) | ((with_reducible first | apply wskip' | apply wr_skip); exact zU; exact zL; exact zU; decide) | ((with_reducible first | apply w_iff'); exact zV; exact zU) | ((with_reducible apply w_ret); (repeat (with_reducible first | apply go_ret | apply blk_ret)); (with_reducible apply done_ret (tok Try.prog)); exact zT; exact zD; exact zX) | fail
      all_goals try clear tE
      simp only [tup, greatF, hix, List.any_nil, Bool.false_or]
      congr 1
      exact decide_eq_decide.2 (by omega)
theorem pf20 (a b : List UInt8) : PF Try.prog 20 [.view (byteRows a), .view (byteRows b)] (fun r => r = .bool (decide (a = b))) := by
  refine pf_of_w0 Try.func20 (c := _) rfl rfl (Nat.le_of_ble_eq_true rfl) (args_2 (byteRows_pur a) (byteRows_pur b)) ?_
  rw [show Try.f20.ntmps = 10 from rfl]
  have tE := And.intro (@upd_upd AV) <| And.intro (@upd_upd (Option Blk)) <| And.intro ty5 <| And.intro ty9 <| And.intro ty34 <| Try.results20; repeat' first | ((with_reducible first | apply w_seq | apply w_region | apply wl_nil | apply wr_nil | apply wr_nilA | apply wr_nilE | apply go_normal | apply go_ret | apply go_exit | apply blk_normal | apply blk_ret | apply blk_here | apply w_block | apply w_skip | apply w_exit | apply w_label)) | ((with_reducible first | apply wz (tok Try.prog) | apply wr_z (tok Try.prog)); exact zZ; decide) | ((with_reducible first | apply wp | apply wr_p); (focus (first | ((with_reducible first | apply p_slv (tok Try.prog)); exact zT; exact zU; exact zT; exact zV; exact zN; exact zN; (focus (first | exact zU | exact zB)); (focus (first | exact zU | exact zB)); (focus (first | exact zU | assumption))) | ((with_reducible first | apply p_slo (tok Try.prog)); exact zT; exact zU; exact zT; exact zV; exact zN; exact zN; (focus (first | exact zU | exact zB)); (focus (first | exact zU | exact zB)); (focus (first | exact zU | assumption))) | ((with_reducible first | apply p_nil (tok Try.prog) | apply p_nnil (tok Try.prog)); exact zT; exact zV; exact zU) | ((with_reducible first | apply p_bs0 (tok Try.prog)); exact zT; exact zU; exact zT) | ((with_reducible first | apply p_ap0 (tok Try.prog)); exact zT; exact zU; exact zT; exact zT; exact zU; exact zA; exact zV; (focus (first | exact Or.inl rfl | exact Or.inr rfl))) | ((with_reducible first | apply p_bytes (tok Try.prog)); exact zT; exact zU; exact zT; exact zU; exact zT; exact zU; exact zV))); decide) | ((with_reducible apply w_ret); (repeat (with_reducible first | apply go_ret | apply blk_ret)); (with_reducible apply done_ret (tok Try.prog)); exact zT; exact zD; exact zX) | fail
  all_goals try clear tE
  all_goals first | (simp_all [tup]; done) | (simp_all [tup]; rw [Bool.eq_iff_iff]; simp)
theorem pf39 (a b : List Int) (ha : a.length ≤ 1000000) : PF Try.prog 39 [.view (intRows a), .view (intRows b)] (fun r => r = .bool (decide (a = b))) := by
  refine pf_of_w0 Try.func39 (c := _) rfl rfl (Nat.le_of_ble_eq_true rfl) (args_2 (intRows_pur a) (intRows_pur b)) ?_
  rw [show Try.f39.ntmps = 26 from rfl]
  have hva := intRows_pur a
  have hvb := intRows_pur b
  by_cases el : a.length = b.length
  · have hne : ((a.length : Int) != (b.length : Int)) = false := by simp [el]
    have tE := And.intro (@upd_upd AV) <| And.intro (@upd_upd (Option Blk)) <| And.intro hne <| And.intro intRows_len <| And.intro ty3 <| And.intro ty35 <| Try.results39; repeat' first | ((with_reducible first | apply w_seq | apply w_region | apply wl_nil | apply wr_nil | apply wr_nilA | apply wr_nilE | apply go_normal | apply go_ret | apply go_exit | apply blk_normal | apply blk_ret | apply blk_here | apply w_block | apply w_skip | apply w_exit | apply w_label)) | ((with_reducible first | apply wz (tok Try.prog) | apply wr_z (tok Try.prog)); exact zZ; decide) | ((with_reducible first | apply w_iff'); exact zV; exact zU) | fail
    all_goals try clear tE
    refine w_loopS (S := Nat) (fun i => [(0, .view (intRows a)), (1, .view (intRows b)), (5, .int .i64 (i : Int))]) (fun _ => []) [] (fun i => i ≤ a.length ∧ a.take i = b.take i) (fun i => a.length - i) 0 ?_ ⟨Nat.zero_le _, rfl⟩ ?_
    · (have tu0 : Pur _ := hva; have tu1 : Pur _ := hvb; have tE := And.intro (@upd_upd AV) <| @upd_upd (Option Blk); exact kcanS [])
    · rintro i ⟨hi, ht⟩
      simp only [St.ofS, List.length_nil]
      by_cases e : i < a.length
      · obtain ⟨x, hx⟩ : ∃ x, a[i]? = some x := ⟨a[i], List.getElem?_eq_getElem e⟩
        obtain ⟨y, hy⟩ : ∃ y, b[i]? = some y := ⟨b[i]'(by omega), List.getElem?_eq_getElem _⟩
        have h1 : ((i : Int) < (a.length : Int)) = True := by simp; omega
        have h0 : (0 ≤ (i : Int)) = True := by simp
        have hr := int_row hx
        have hs := int_row hy
        have hw : IntKind.i64.wrap ((i : Int) + 1) = ((i + 1 : Nat) : Int) := by rw [wrap64 (by omega) (by omega)]; rfl
        by_cases hxy : x = y
        · have hb : (x != y) = false := by simp [hxy]
          have tE := And.intro (@upd_upd AV) <| And.intro (@upd_upd (Option Blk)) <| And.intro h1 <| And.intro h0 <| And.intro hr <| And.intro hs <| And.intro hw <| And.intro hb <| And.intro intRows_len <| And.intro ty3 <| And.intro ty35 <| Try.results39; repeat' first | ((with_reducible first | apply w_seq | apply w_region | apply wl_nil | apply wr_nil | apply wr_nilA | apply wr_nilE | apply go_normal | apply go_ret | apply go_exit | apply blk_normal | apply blk_ret | apply blk_here | apply w_block | apply w_skip | apply w_exit | apply w_label)) | ((with_reducible apply w_live (lvAt [[0, 1], [0, 1], [], [0, 1], [0, 1, 5], [0, 1, 5], [0, 1, 5], [], []])); (focus (simp only [lvAt_zero, lvAt_succ]; rfl)); exact zLv) | ((with_reducible first | apply wz (tok Try.prog) | apply wr_z (tok Try.prog)); exact zZ; decide) | ((with_reducible first | apply w_ift'); exact zV; exact zU) | ((with_reducible first | apply w_iff'); exact zV; exact zU) | ((with_reducible first | apply w_draw0 mixed); (focus (decide +kernel))) | fail
          all_goals try clear tE
          refine ⟨i + 1, by omega, ⟨by omega, by rw [List.take_add_one, List.take_add_one, ht, hx, hy, hxy]⟩, ?_⟩
          (have tu0 : Pur _ := hva; have tu1 : Pur _ := hvb; have tE := And.intro (@upd_upd AV) <| @upd_upd (Option Blk); exact kcanS [])
        · have hb : (x != y) = true := by simpa using hxy
          have tE := And.intro (@upd_upd AV) <| And.intro (@upd_upd (Option Blk)) <| And.intro h1 <| And.intro h0 <| And.intro hr <| And.intro hs <| And.intro hw <| And.intro hb <| And.intro intRows_len <| And.intro ty3 <| And.intro ty35 <| Try.results39; repeat' first | ((with_reducible first | apply w_seq | apply w_region | apply wl_nil | apply wr_nil | apply wr_nilA | apply wr_nilE | apply go_normal | apply go_ret | apply go_exit | apply blk_normal | apply blk_ret | apply blk_here | apply w_block | apply w_skip | apply w_exit | apply w_label)) | ((with_reducible apply w_live (lvAt [[0, 1], [0, 1], [], [0, 1], [0, 1, 5], [0, 1, 5], [0, 1, 5], [], []])); (focus (simp only [lvAt_zero, lvAt_succ]; rfl)); exact zLv) | ((with_reducible first | apply wz (tok Try.prog) | apply wr_z (tok Try.prog)); exact zZ; decide) | ((with_reducible first | apply w_ift'); exact zV; exact zU) | ((with_reducible first | apply w_draw0 mixed); (focus (decide +kernel))) | ((with_reducible apply w_ret); (repeat (with_reducible first | apply go_ret | apply blk_ret)); (with_reducible apply done_ret (tok Try.prog)); exact zT; exact zD; exact zX) | fail
          all_goals try clear tE
          have hab : a ≠ b := by rintro rfl; rw [hx] at hy; cases hy; exact hxy rfl
          simp [tup, hab]
      · have h1 : ((i : Int) < (a.length : Int)) = False := by simp; omega
        have e2 : i = a.length := by omega
        have tE := And.intro (@upd_upd AV) <| And.intro (@upd_upd (Option Blk)) <| And.intro h1 <| And.intro intRows_len <| And.intro ty3 <| And.intro ty35 <| Try.results39; repeat' first | ((with_reducible first | apply w_seq | apply w_region | apply wl_nil | apply wr_nil | apply wr_nilA | apply wr_nilE | apply go_normal | apply go_ret | apply go_exit | apply blk_normal | apply blk_ret | apply blk_here | apply w_block | apply w_skip | apply w_exit | apply w_label)) | ((with_reducible first | apply wz (tok Try.prog) | apply wr_z (tok Try.prog)); exact zZ; decide) | ((with_reducible first | apply w_iff'); exact zV; exact zU) | ((with_reducible apply w_ret); (repeat (with_reducible first | apply go_ret | apply blk_ret)); (with_reducible apply done_ret (tok Try.prog)); exact zT; exact zD; exact zX) | fail
        all_goals try clear tE
        subst e2
        have hab : a = b := by rw [List.take_length, List.take_of_length_le (by omega)] at ht; exact ht
        simp [tup, hab]
  · have hne : ((a.length : Int) != (b.length : Int)) = true := by simp; omega
    have tE := And.intro (@upd_upd AV) <| And.intro (@upd_upd (Option Blk)) <| And.intro hne <| And.intro intRows_len <| And.intro ty3 <| And.intro ty35 <| Try.results39; repeat' first | ((with_reducible first | apply w_seq | apply w_region | apply wl_nil | apply wr_nil | apply wr_nilA | apply wr_nilE | apply go_normal | apply go_ret | apply go_exit | apply blk_normal | apply blk_ret | apply blk_here | apply w_block | apply w_skip | apply w_exit | apply w_label)) | ((with_reducible first | apply wz (tok Try.prog) | apply wr_z (tok Try.prog)); exact zZ; decide) | ((with_reducible first | apply w_ift'); exact zV; exact zU) | ((with_reducible apply w_ret); (repeat (with_reducible first | apply go_ret | apply blk_ret)); (with_reducible apply done_ret (tok Try.prog)); exact zT; exact zD; exact zX) | fail
    all_goals try clear tE
    have hab : a ≠ b := by rintro rfl; exact el rfl
    simp [tup, hab]
theorem fr_eq (x y : Fr) : x = y ↔ x.k = y.k ∧ x.p = y.p ∧ x.d = y.d ∧ x.pins = y.pins ∧ x.rf = y.rf ∧ x.dt = y.dt := by
  cases x; cases y; simp
def sameF (a b : Fs) : Bool := decide (a.l = b.l) && decide (a.h = b.h)
theorem pf15 (a b : Fs) (ha : a.l.length ≤ 1000000) (hp : ∀ x, x ∈ a.l → x.pins.length ≤ 1000000) : PF Try.prog 15 [.agg a.cells, .agg b.cells] (fun r => r = .bool (sameF a b)) := by
  refine pf_of_w0 Try.func15 (c := _) rfl rfl (Nat.le_of_ble_eq_true rfl) (args_2 (fsa_pur a) (fsa_pur b)) ?_
  rw [show Try.f15.ntmps = 81 from rfl]
  have hva : Pur (.vptr a.cells) := .vptr (fs_pur a)
  have hvb : Pur (.vptr b.cells) := .vptr (fs_pur b)
  by_cases el : a.l.length = b.l.length
  · have hne : ((a.l.length : Int) != (b.l.length : Int)) = false := by simp [el]
    by_cases eh : a.h = b.h
    · have hnh : (a.h != b.h) = false := by simp [eh]
      have tE := And.intro (@upd_upd AV) <| And.intro (@upd_upd (Option Blk)) <| And.intro hne <| And.intro hnh <| And.intro Fs.cells.eq_1 <| And.intro frRows_len <| And.intro ty3 <| And.intro ty4 <| And.intro ty5 <| And.intro ty24 <| And.intro ty26 <| And.intro ty34 <| And.intro ty35 <| And.intro ty37 <| Try.results15; repeat' first | ((with_reducible first | apply w_seq | apply w_region | apply wl_nil | apply wr_nil | apply wr_nilA | apply wr_nilE | apply go_normal | apply go_ret | apply go_exit | apply blk_normal | apply blk_ret | apply blk_here | apply w_block | apply w_skip | apply w_exit | apply w_label)) | ((with_reducible first | apply wz (tok Try.prog) | apply wr_z (tok Try.prog)); exact zZ; decide) | ((with_reducible first | apply wzg (tok Try.prog) | apply wr_zg (tok Try.prog)); exact zU; exact zL; exact zU; exact zZ; decide) | ((with_reducible first | apply w_iff'); exact zV; exact zU) | fail
      all_goals try clear tE
      refine w_loopS (S := Nat) (fun i => [(2, .vptr a.cells), (3, .vptr b.cells), (5, .int .i64 (i : Int))]) (fun _ => []) [] (fun i => i ≤ a.l.length ∧ a.l.take i = b.l.take i) (fun i => a.l.length - i) 0 ?_ ⟨Nat.zero_le _, rfl⟩ ?_
      · (have tu0 : Pur _ := hva; have tu1 : Pur _ := hvb; have tE := And.intro (@upd_upd AV) <| @upd_upd (Option Blk); exact kcanS [])
      · rintro i ⟨hi, ht⟩
        simp only [St.ofS, List.length_nil]
        by_cases e : i < a.l.length
        · obtain ⟨x, hx⟩ : ∃ x, a.l[i]? = some x := ⟨a.l[i], List.getElem?_eq_getElem e⟩
          obtain ⟨y, hy⟩ : ∃ y, b.l[i]? = some y := ⟨b.l[i]'(by omega), List.getElem?_eq_getElem _⟩
          have h1 : ((i : Int) < (a.l.length : Int)) = True := by simp; omega
          have h0 : (0 ≤ (i : Int)) = True := by simp
          have hr := fr_row hx
          have hs := fr_row hy
          have hw : IntKind.i64.wrap ((i : Int) + 1) = ((i + 1 : Nat) : Int) := by rw [wrap64 (by omega) (by omega)]; rfl
          have h39 := pf39 x.pins y.pins (hp x (List.mem_of_getElem? hx))
          by_cases hxy : x = y
          · have hb1 : (x.k != y.k) = false := by simp [hxy]
            have hb2 : (x.p != y.p) = false := by simp [hxy]
            have hb3 : (x.d = y.d) = True := by simp [hxy]
            have hb4 : (x.pins = y.pins) = True := by simp [hxy]
            have hb5 : (x.rf == y.rf) = true := by simp [hxy]
            have hb6 : (x.dt == y.dt) = true := by simp [hxy]
            have tE := And.intro (@upd_upd AV) <| And.intro (@upd_upd (Option Blk)) <| And.intro h1 <| And.intro h0 <| And.intro hr <| And.intro hs <| And.intro hw <| And.intro hb1 <| And.intro hb2 <| And.intro hb3 <| And.intro hb4 <| And.intro hb5 <| And.intro hb6 <| And.intro Fs.cells.eq_1 <| And.intro Fr.cells.eq_1 <| And.intro frRows_len <| And.intro ty3 <| And.intro ty4 <| And.intro ty5 <| And.intro ty24 <| And.intro ty26 <| And.intro ty34 <| And.intro ty35 <| And.intro ty37 <| Try.results15; repeat' first | ((with_reducible first | apply w_seq | apply w_region | apply wl_nil | apply wr_nil | apply wr_nilA | apply wr_nilE | apply go_normal | apply go_ret | apply go_exit | apply blk_normal | apply blk_ret | apply blk_here | apply w_block | apply w_skip | apply w_exit | apply w_label)) | ((with_reducible apply w_live (lvAt [[0, 1], [2, 3], [], [2, 3], [2, 3, 5], [2, 3, 5], [2, 3, 5], [2, 3, 5, 6, 7], [], []])); (focus (simp only [lvAt_zero, lvAt_succ]; rfl)); exact zLv) | ((with_reducible first | apply wz (tok Try.prog) | apply wr_z (tok Try.prog)); exact zZ; decide) | ((with_reducible first | apply wzg (tok Try.prog) | apply wr_zg (tok Try.prog)); exact zU; exact zL; exact zU; exact zZ; decide) | ((with_reducible first | apply wcallg' | apply wr_callg); exact zU; exact zL; exact zU; exact zV; exact zVs; exact zAs; (focus (with_unfolding_all first | exact pf20 x.d y.d | exact h39)); decide) | ((with_reducible first | apply w_ift'); exact zV; exact zU) | ((with_reducible first | apply w_iff'); exact zV; exact zU) | ((with_reducible first | apply fm_nil | apply fm_cons)) | ((with_reducible apply m_next); exact zU) | ((with_reducible apply m_nil0); exact zU) | ((with_reducible first | apply m_v (tok Try.prog)); exact zU; exact zZ; decide) | ((with_reducible first | apply m_xA (tok Try.prog)); exact zU; exact zI; decide) | ((with_reducible first | apply m_chg); exact zU; (focus (first | ((with_reducible apply c_alloc (tok Try.prog)); exact zT) | ((with_reducible apply c_ap); (focus (first | (intro _ ho _ hr _; (with_reducible apply ap_new (tok Try.prog) ho (hr := hr)); exact zT; exact zU; exact zT; exact zT; exact zU; exact zA; exact zV; exact zK; exact zM; exact zK; exact zK; decide) | (intro _ ho _ hr _; (with_reducible apply ap_own (tok Try.prog) ho (hr := hr)); exact zT; exact zU; exact zT; exact zT; exact zU; exact zV; exact zV; exact zH; exact zKo; exact zM; (focus (first | rfl | assumption)); exact zKo; exact zKo; decide)))))); decide) | ((with_reducible first | apply m_chg0); exact zU; (focus ((with_reducible apply c_store (tok Try.prog)); exact zV; exact zV; exact zS))) | ((with_reducible apply w_drawN (id := 6) [10, 11, 12, 13] [([10, 11, 12, 13], [10, 11, 0, 1, 2, 3, 4, 12, 5, 6, 7, 8, 9, 13]), ([11, 10, 12, 13], [11, 10, 0, 1, 2, 3, 4, 12, 5, 6, 7, 8, 9, 13])] mixed); (focus (decide +kernel))) | fail
            all_goals try clear tE
            all_goals
              refine ⟨i + 1, by omega, ⟨by omega, by rw [List.take_add_one, List.take_add_one, ht, hx, hy, hxy]⟩, ?_⟩
              (have tu0 : Pur _ := hva; have tu1 : Pur _ := hvb; have tE := And.intro (@upd_upd AV) <| @upd_upd (Option Blk); exact kcanS [])
          · have hab : a.l ≠ b.l := by intro h; rw [h, hy] at hx; cases hx; exact hxy rfl
            have hsf : sameF a b = false := by simp [sameF, hab]
            rw [hsf]
            rw [fr_eq] at hxy
            have tE := And.intro (@upd_upd AV) <| And.intro (@upd_upd (Option Blk)) <| And.intro h1 <| And.intro h0 <| And.intro hr <| And.intro hs <| And.intro hw <| And.intro Fs.cells.eq_1 <| And.intro Fr.cells.eq_1 <| And.intro frRows_len <| And.intro ty3 <| And.intro ty4 <| And.intro ty5 <| And.intro ty24 <| And.intro ty26 <| And.intro ty34 <| And.intro ty35 <| And.intro ty37 <| Try.results15; repeat' first | ((with_reducible first | apply w_seq | apply w_region | apply wl_nil | apply wr_nil | apply wr_nilA | apply wr_nilE | apply go_normal | apply go_ret | apply go_exit | apply blk_normal | apply blk_ret | apply blk_here | apply w_block | apply w_skip | apply w_exit | apply w_label)) | ((with_reducible apply w_live (lvAt [[0, 1], [2, 3], [], [2, 3], [2, 3, 5], [2, 3, 5], [2, 3, 5], [2, 3, 5, 6, 7], [], []])); (focus (simp only [lvAt_zero, lvAt_succ]; rfl)); exact zLv) | ((with_reducible first | apply wz (tok Try.prog) | apply wr_z (tok Try.prog)); exact zZ; decide) | ((with_reducible first | apply wzg (tok Try.prog) | apply wr_zg (tok Try.prog)); exact zU; exact zL; exact zU; exact zZ; decide) | ((with_reducible first | apply wskip' | apply wr_skip); exact zU; exact zL; exact zU; decide) | ((with_reducible first | apply wcallg' | apply wr_callg); exact zU; exact zL; exact zU; exact zV; exact zVs; exact zAs; (focus (with_unfolding_all first | exact pf20 x.d y.d | exact h39)); decide) | ((with_reducible first | apply wsplit | apply wr_split); exact zU; exact zL; constructor <;> intro _) | ((with_reducible first | apply w_ift'); exact zV; exact zU) | ((with_reducible first | apply w_if); exact zV; constructor <;> intro _) | ((with_reducible first | apply fm_nil | apply fm_cons)) | ((with_reducible apply m_next); exact zU) | ((with_reducible apply m_nil0); exact zU) | ((with_reducible first | apply m_v (tok Try.prog)); exact zU; exact zZ; decide) | ((with_reducible first | apply m_xA (tok Try.prog)); exact zU; exact zI; decide) | ((with_reducible first | apply m_chg); exact zU; (focus (first | ((with_reducible apply c_alloc (tok Try.prog)); exact zT) | ((with_reducible apply c_ap); (focus (first | (intro _ ho _ hr _; (with_reducible apply ap_new (tok Try.prog) ho (hr := hr)); exact zT; exact zU; exact zT; exact zT; exact zU; exact zA; exact zV; exact zK; exact zM; exact zK; exact zK; decide) | (intro _ ho _ hr _; (with_reducible apply ap_own (tok Try.prog) ho (hr := hr)); exact zT; exact zU; exact zT; exact zT; exact zU; exact zV; exact zV; exact zH; exact zKo; exact zM; (focus (first | rfl | assumption)); exact zKo; exact zKo; decide)))))); decide) | ((with_reducible first | apply m_chg0); exact zU; (focus ((with_reducible apply c_store (tok Try.prog)); exact zV; exact zV; exact zS))) | ((with_reducible apply w_drawN (id := 6) [10, 11, 12, 13] [([10, 11, 12, 13], [10, 11, 0, 1, 2, 3, 4, 12, 5, 6, 7, 8, 9, 13]), ([11, 10, 12, 13], [11, 10, 0, 1, 2, 3, 4, 12, 5, 6, 7, 8, 9, 13])] mixed); (focus (decide +kernel))) | ((with_reducible apply w_ret); (repeat (with_reducible first | apply go_ret | apply blk_ret)); (with_reducible apply done_ret (tok Try.prog)); exact zT; exact zD; exact zX) | fail
            all_goals try clear tE
            all_goals first | rfl | (exfalso; simp_all)
        · have h1 : ((i : Int) < (a.l.length : Int)) = False := by simp; omega
          have e2 : i = a.l.length := by omega
          have tE := And.intro (@upd_upd AV) <| And.intro (@upd_upd (Option Blk)) <| And.intro h1 <| And.intro Fs.cells.eq_1 <| And.intro frRows_len <| And.intro ty3 <| And.intro ty4 <| And.intro ty5 <| And.intro ty24 <| And.intro ty26 <| And.intro ty34 <| And.intro ty35 <| And.intro ty37 <| Try.results15; repeat' first | ((with_reducible first | apply w_seq | apply w_region | apply wl_nil | apply wr_nil | apply wr_nilA | apply wr_nilE | apply go_normal | apply go_ret | apply go_exit | apply blk_normal | apply blk_ret | apply blk_here | apply w_block | apply w_skip | apply w_exit | apply w_label)) | ((with_reducible first | apply wz (tok Try.prog) | apply wr_z (tok Try.prog)); exact zZ; decide) | ((with_reducible first | apply w_iff'); exact zV; exact zU) | ((with_reducible apply w_ret); (repeat (with_reducible first | apply go_ret | apply blk_ret)); (with_reducible apply done_ret (tok Try.prog)); exact zT; exact zD; exact zX) | fail
          all_goals try clear tE
          subst e2
          have hab : a.l = b.l := by rw [List.take_length, List.take_of_length_le (by omega)] at ht; exact ht
          simp [tup, sameF, hab, eh]
    · have hnh : (a.h != b.h) = true := by simp [eh]
      have tE := And.intro (@upd_upd AV) <| And.intro (@upd_upd (Option Blk)) <| And.intro hne <| And.intro hnh <| And.intro Fs.cells.eq_1 <| And.intro frRows_len <| And.intro ty3 <| And.intro ty4 <| And.intro ty5 <| And.intro ty24 <| And.intro ty26 <| And.intro ty34 <| And.intro ty35 <| And.intro ty37 <| Try.results15; repeat' first | ((with_reducible first | apply w_seq | apply w_region | apply wl_nil | apply wr_nil | apply wr_nilA | apply wr_nilE | apply go_normal | apply go_ret | apply go_exit | apply blk_normal | apply blk_ret | apply blk_here | apply w_block | apply w_skip | apply w_exit | apply w_label)) | ((with_reducible first | apply wz (tok Try.prog) | apply wr_z (tok Try.prog)); exact zZ; decide) | ((with_reducible first | apply wzg (tok Try.prog) | apply wr_zg (tok Try.prog)); exact zU; exact zL; exact zU; exact zZ; decide) | ((with_reducible first | apply w_ift'); exact zV; exact zU) | ((with_reducible apply w_ret); (repeat (with_reducible first | apply go_ret | apply blk_ret)); (with_reducible apply done_ret (tok Try.prog)); exact zT; exact zD; exact zX) | fail
      all_goals try clear tE
      simp [tup, sameF, eh]
  · have hne : ((a.l.length : Int) != (b.l.length : Int)) = true := by simp; omega
    have tE := And.intro (@upd_upd AV) <| And.intro (@upd_upd (Option Blk)) <| And.intro hne <| And.intro Fs.cells.eq_1 <| And.intro frRows_len <| And.intro ty3 <| And.intro ty4 <| And.intro ty5 <| And.intro ty24 <| And.intro ty26 <| And.intro ty34 <| And.intro ty35 <| And.intro ty37 <| Try.results15; repeat' first | ((with_reducible first | apply w_seq | apply w_region | apply wl_nil | apply wr_nil | apply wr_nilA | apply wr_nilE | apply go_normal | apply go_ret | apply go_exit | apply blk_normal | apply blk_ret | apply blk_here | apply w_block | apply w_skip | apply w_exit | apply w_label)) | ((with_reducible first | apply wz (tok Try.prog) | apply wr_z (tok Try.prog)); exact zZ; decide) | ((with_reducible first | apply wskip' | apply wr_skip); exact zU; exact zL; exact zU; decide) | ((with_reducible first | apply w_ift'); exact zV; exact zU) | ((with_reducible apply w_ret); (repeat (with_reducible first | apply go_ret | apply blk_ret)); (with_reducible apply done_ret (tok Try.prog)); exact zT; exact zD; exact zX) | fail
    all_goals try clear tE
    have hab : a.l ≠ b.l := by intro h; exact el (by rw [h])
    simp [tup, sameF, hab]
end Go.Proofs.Ytlmighkbeacjnaa
