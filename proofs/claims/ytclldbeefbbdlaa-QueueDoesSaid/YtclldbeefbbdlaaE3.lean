/- Equal units, equal queues. -/
import Derived.Test.YtclldbeefbbdlaaE2
open Go Go.Lg
set_option linter.unusedSimpArgs false
set_option linter.unusedVariables false
set_option maxHeartbeats 4000000
namespace Go.Proofs.Ytclldbeefbbdlaa
theorem un_eq (u v : Un) : u = v ↔ u.k = v.k ∧ u.p = v.p ∧ u.f = v.f ∧ u.d = v.d := by
  cases u; cases v; simp
theorem args_uu (u v : Un) : ∀ x, x ∈ [AV.agg u.cells, AV.agg v.cells] → Pur x := by
  intro x hx
  simp only [List.mem_cons, List.not_mem_nil, or_false] at hx
  rcases hx with rfl | rfl
  · exact .agg (un_pur u)
  · exact .agg (un_pur v)
theorem pf35 (u v : Un) : PF Try.prog 35 [.agg u.cells, .agg v.cells] (fun r => r = .bool (decide (u = v))) := by
  refine pf_of_w0 Try.func35 (c := _) rfl rfl (Nat.le_of_ble_eq_true rfl) (args_uu u v) ?_
  rw [show Try.f35.ntmps = 33 from rfl]
  have tE := And.intro (@upd_upd AV) <| And.intro (@upd_upd (Option Blk)) <| And.intro Un.cells.eq_1 <| And.intro ty3 <| And.intro ty5 <| And.intro ty9 <| And.intro ty56 <| And.intro ty58 <| Try.results35; repeat' first | ((with_reducible first | apply w_seq | apply w_region | apply wl_nil | apply wr_nil | apply wr_nilA | apply wr_nilE | apply go_normal | apply go_ret | apply go_exit | apply blk_normal | apply blk_ret | apply blk_here | apply w_block | apply w_skip | apply w_exit | apply w_label)) | ((with_reducible first | apply wz (tok Try.prog) | apply wr_z (tok Try.prog)); exact zZ; decide) | ((with_reducible first | apply wzg (tok Try.prog) | apply wr_zg (tok Try.prog)); exact zU; exact zL; exact zU; exact zZ; decide) | ((with_reducible first | apply wskip' | apply wr_skip); exact zU; exact zL; exact zU; decide) | ((with_reducible first | apply wpg | apply wr_pg); exact zU; exact zL; exact zU; (focus (first | ((with_reducible first | apply p_slv (tok Try.prog)); exact zT; exact zU; exact zT; exact zV; exact zN; exact zN; (focus (first | exact zU | exact zB)); (focus (first | exact zU | exact zB)); (focus (first | exact zU | assumption))) | ((with_reducible first | apply p_slo (tok Try.prog)); exact zT; exact zU; exact zT; exact zV; exact zN; exact zN; (focus (first | exact zU | exact zB)); (focus (first | exact zU | exact zB)); (focus (first | exact zU | assumption))) | ((with_reducible first | apply p_nil (tok Try.prog) | apply p_nnil (tok Try.prog)); exact zT; exact zV; exact zU) | ((with_reducible first | apply p_bs0 (tok Try.prog)); exact zT; exact zU; exact zT) | ((with_reducible first | apply p_ap0 (tok Try.prog)); exact zT; exact zU; exact zT; exact zT; exact zU; exact zA; exact zV; (focus (first | exact Or.inl rfl | exact Or.inr rfl))) | ((with_reducible first | apply p_bytes (tok Try.prog)); exact zT; exact zU; exact zT; exact zU; exact zT; exact zU; exact zV))); decide) | ((with_reducible first | apply wsplit | apply wr_split); exact zU; exact zL; constructor <;> intro _) | ((with_reducible apply w_ret); (repeat (with_reducible first | apply go_ret | apply blk_ret)); (with_reducible apply done_ret (tok Try.prog)); exact zT; exact zD; exact zX) | fail
  all_goals try clear tE
  all_goals first | (simp_all [tup, un_eq]; done) | (simp_all [tup, un_eq]; rw [Bool.eq_iff_iff]; simp)
theorem byte_row {l : List UInt8} {i : Nat} {b : UInt8} (h : l[i]? = some b) : (byteRows l)[i]? = some [.int .u8 b.toNat] := by
  simp [byteRows, h]
theorem pf70 (a b : List UInt8) (ha : a.length ≤ 1000000) : PF Try.prog 70 [.view (byteRows a), .view (byteRows b)] (fun r => r = .bool (decide (a = b))) := by
  refine pf_of_w0 Try.func70 (c := _) rfl rfl (Nat.le_of_ble_eq_true rfl) (fun x hx => by
    simp only [List.mem_cons, List.not_mem_nil, or_false] at hx
    rcases hx with rfl | rfl <;> exact byteRows_pur _) ?_
  rw [show Try.f70.ntmps = 26 from rfl]
  by_cases el : a.length = b.length
  · have hne : ((a.length : Int) != (b.length : Int)) = false := by simp [el]
    have tE := And.intro (@upd_upd AV) <| And.intro (@upd_upd (Option Blk)) <| And.intro hne <| And.intro byteRows_len <| And.intro ty3 <| And.intro ty5 <| And.intro ty56 <| Try.results70; repeat' first | ((with_reducible first | apply w_seq | apply w_region | apply wl_nil | apply wr_nil | apply wr_nilA | apply wr_nilE | apply go_normal | apply go_ret | apply go_exit | apply blk_normal | apply blk_ret | apply blk_here | apply w_block | apply w_skip | apply w_exit | apply w_label)) | ((with_reducible first | apply wz (tok Try.prog) | apply wr_z (tok Try.prog)); exact zZ; decide) | ((with_reducible first | apply w_iff'); exact zV; exact zU) | fail
    all_goals try clear tE
    refine w_loopS (S := Nat) (fun i => [(0, .view (byteRows a)), (1, .view (byteRows b)), (12, .int .i64 (a.length : Int)), (13, .int .i64 (i : Int))]) (fun _ => []) [] (fun i => i ≤ a.length ∧ a.take i = b.take i) (fun i => a.length - i) 0 ?_ ⟨Nat.zero_le _, rfl⟩ ?_
    · (have tu0 : Pur _ := byteRows_pur a; have tu1 : Pur _ := byteRows_pur b; have tE := And.intro (@upd_upd AV) <| @upd_upd (Option Blk); exact kcanS [])
    · rintro i ⟨hi, ht⟩
      simp only [St.ofS, List.length_nil]
      by_cases e : i < a.length
      · obtain ⟨x, hx⟩ : ∃ x, a[i]? = some x := ⟨a[i], List.getElem?_eq_getElem e⟩
        obtain ⟨y, hy⟩ : ∃ y, b[i]? = some y := ⟨b[i]'(by omega), List.getElem?_eq_getElem _⟩
        have h1 : ((i : Int) < (a.length : Int)) = True := by simp; omega
        have h0 : (0 ≤ (i : Int)) = True := by simp
        have hr := byte_row hx
        have hs := byte_row hy
        have hw : IntKind.i64.wrap ((i : Int) + 1) = ((i + 1 : Nat) : Int) := by rw [wrap64 (by omega) (by omega)]; rfl
        by_cases hxy : x = y
        · have hb : ((x.toNat : Int) != (y.toNat : Int)) = false := by simp [hxy]
          have tE := And.intro (@upd_upd AV) <| And.intro (@upd_upd (Option Blk)) <| And.intro h1 <| And.intro h0 <| And.intro hr <| And.intro hs <| And.intro hw <| And.intro hb <| And.intro byteRows_len <| And.intro ty3 <| And.intro ty5 <| And.intro ty56 <| Try.results70; repeat' first | ((with_reducible first | apply w_seq | apply w_region | apply wl_nil | apply wr_nil | apply wr_nilA | apply wr_nilE | apply go_normal | apply go_ret | apply go_exit | apply blk_normal | apply blk_ret | apply blk_here | apply w_block | apply w_skip | apply w_exit | apply w_label)) | ((with_reducible apply w_live (lvAt [[0, 1], [0, 1], [], [0, 1], [0, 1, 12, 13], [0, 1, 12, 13], [0, 1, 5, 12, 13], [], [0, 1, 12, 13], []])); (focus (simp only [lvAt_zero, lvAt_succ]; rfl)); exact zLv) | ((with_reducible first | apply wz (tok Try.prog) | apply wr_z (tok Try.prog)); exact zZ; decide) | ((with_reducible first | apply w_ift'); exact zV; exact zU) | ((with_reducible first | apply w_iff'); exact zV; exact zU) | ((with_reducible first | apply w_draw0 mixed); (focus (decide +kernel))) | fail
          all_goals try clear tE
          refine ⟨i + 1, by omega, ⟨by omega, by rw [List.take_add_one, List.take_add_one, ht, hx, hy, hxy]⟩, ?_⟩
          (have tu0 : Pur _ := byteRows_pur a; have tu1 : Pur _ := byteRows_pur b; have tE := And.intro (@upd_upd AV) <| @upd_upd (Option Blk); exact kcanS [])
        · have hb : ((x.toNat : Int) != (y.toNat : Int)) = true := by
            rw [bne_iff_ne]; intro h; exact hxy (UInt8.toNat_inj.1 (by omega))
          have tE := And.intro (@upd_upd AV) <| And.intro (@upd_upd (Option Blk)) <| And.intro h1 <| And.intro h0 <| And.intro hr <| And.intro hs <| And.intro hw <| And.intro hb <| And.intro byteRows_len <| And.intro ty3 <| And.intro ty5 <| And.intro ty56 <| Try.results70; repeat' first | ((with_reducible first | apply w_seq | apply w_region | apply wl_nil | apply wr_nil | apply wr_nilA | apply wr_nilE | apply go_normal | apply go_ret | apply go_exit | apply blk_normal | apply blk_ret | apply blk_here | apply w_block | apply w_skip | apply w_exit | apply w_label)) | ((with_reducible apply w_live (lvAt [[0, 1], [0, 1], [], [0, 1], [0, 1, 12, 13], [0, 1, 12, 13], [0, 1, 5, 12, 13], [], [0, 1, 12, 13], []])); (focus (simp only [lvAt_zero, lvAt_succ]; rfl)); exact zLv) | ((with_reducible first | apply wz (tok Try.prog) | apply wr_z (tok Try.prog)); exact zZ; decide) | ((with_reducible first | apply w_ift'); exact zV; exact zU) | ((with_reducible first | apply w_draw0 mixed); (focus (decide +kernel))) | ((with_reducible apply w_ret); (repeat (with_reducible first | apply go_ret | apply blk_ret)); (with_reducible apply done_ret (tok Try.prog)); exact zT; exact zD; exact zX) | fail
          all_goals try clear tE
          have hab : a ≠ b := by rintro rfl; rw [hx] at hy; cases hy; exact hxy rfl
          simp [tup, hab]
      · have h1 : ((i : Int) < (a.length : Int)) = False := by simp; omega
        have e2 : i = a.length := by omega
        have tE := And.intro (@upd_upd AV) <| And.intro (@upd_upd (Option Blk)) <| And.intro h1 <| And.intro byteRows_len <| And.intro ty3 <| And.intro ty5 <| And.intro ty56 <| Try.results70; repeat' first | ((with_reducible first | apply w_seq | apply w_region | apply wl_nil | apply wr_nil | apply wr_nilA | apply wr_nilE | apply go_normal | apply go_ret | apply go_exit | apply blk_normal | apply blk_ret | apply blk_here | apply w_block | apply w_skip | apply w_exit | apply w_label)) | ((with_reducible first | apply wz (tok Try.prog) | apply wr_z (tok Try.prog)); exact zZ; decide) | ((with_reducible first | apply w_iff'); exact zV; exact zU) | ((with_reducible apply w_ret); (repeat (with_reducible first | apply go_ret | apply blk_ret)); (with_reducible apply done_ret (tok Try.prog)); exact zT; exact zD; exact zX) | fail
        all_goals try clear tE
        subst e2
        have hab : a = b := by rw [List.take_length, List.take_of_length_le (by omega)] at ht; exact ht
        simp [tup, hab]
  · have hne : ((a.length : Int) != (b.length : Int)) = true := by simp; omega
    have tE := And.intro (@upd_upd AV) <| And.intro (@upd_upd (Option Blk)) <| And.intro hne <| And.intro byteRows_len <| And.intro ty3 <| And.intro ty5 <| And.intro ty56 <| Try.results70; repeat' first | ((with_reducible first | apply w_seq | apply w_region | apply wl_nil | apply wr_nil | apply wr_nilA | apply wr_nilE | apply go_normal | apply go_ret | apply go_exit | apply blk_normal | apply blk_ret | apply blk_here | apply w_block | apply w_skip | apply w_exit | apply w_label)) | ((with_reducible first | apply wz (tok Try.prog) | apply wr_z (tok Try.prog)); exact zZ; decide) | ((with_reducible first | apply w_ift'); exact zV; exact zU) | ((with_reducible apply w_ret); (repeat (with_reducible first | apply go_ret | apply blk_ret)); (with_reducible apply done_ret (tok Try.prog)); exact zT; exact zD; exact zX) | fail
    all_goals try clear tE
    have hab : a ≠ b := fun h => el (by rw [h])
    simp [tup, hab]
theorem pf69 (u v : Un) (hu : u.d.length ≤ 1000000) : PF Try.prog 69 [.agg u.cells, .agg v.cells] (fun r => r = .bool (decide (u = v))) := by
  refine pf_of_w0 Try.func69 (c := _) rfl rfl (Nat.le_of_ble_eq_true rfl) (args_uu u v) ?_
  rw [show Try.f69.ntmps = 31 from rfl]
  have tE := And.intro (@upd_upd AV) <| And.intro (@upd_upd (Option Blk)) <| And.intro Un.cells.eq_1 <| And.intro ty3 <| And.intro ty5 <| And.intro ty56 <| And.intro ty58 <| Try.results69; repeat' first | ((with_reducible first | apply w_seq | apply w_region | apply wl_nil | apply wr_nil | apply wr_nilA | apply wr_nilE | apply go_normal | apply go_ret | apply go_exit | apply blk_normal | apply blk_ret | apply blk_here | apply w_block | apply w_skip | apply w_exit | apply w_label)) | ((with_reducible first | apply wz (tok Try.prog) | apply wr_z (tok Try.prog)); exact zZ; decide) | ((with_reducible first | apply wzg (tok Try.prog) | apply wr_zg (tok Try.prog)); exact zU; exact zL; exact zU; exact zZ; decide) | ((with_reducible first | apply wskip' | apply wr_skip); exact zU; exact zL; exact zU; decide) | ((with_reducible first | apply wcallg' | apply wr_callg); exact zU; exact zL; exact zU; exact zV; exact zVs; exact zAs; (focus (with_unfolding_all first | exact pf70 u.d v.d hu)); decide) | ((with_reducible first | apply wsplit | apply wr_split); exact zU; exact zL; constructor <;> intro _) | ((with_reducible apply w_ret); (repeat (with_reducible first | apply go_ret | apply blk_ret)); (with_reducible apply done_ret (tok Try.prog)); exact zT; exact zD; exact zX) | fail
  all_goals try clear tE
  all_goals simp_all [tup, un_eq]
theorem pf40 (a b : List Un) (ha : a.length ≤ 1000000) : PF Try.prog 40 [.view (unRows a), .view (unRows b)] (fun r => r = .bool (decide (a = b))) := by
  refine pf_of_w0 Try.func40 (c := _) rfl rfl (Nat.le_of_ble_eq_true rfl) (args_ll a b) ?_
  rw [show Try.f40.ntmps = 27 from rfl]
  by_cases el : a.length = b.length
  · have hne : ((a.length : Int) != (b.length : Int)) = false := by simp [el]
    have tE := And.intro (@upd_upd AV) <| And.intro (@upd_upd (Option Blk)) <| And.intro hne <| And.intro unRows_len <| And.intro ty3 <| And.intro ty4 <| And.intro ty5 <| And.intro ty55 <| And.intro ty56 <| And.intro ty58 <| Try.results40; repeat' first | ((with_reducible first | apply w_seq | apply w_region | apply wl_nil | apply wr_nil | apply wr_nilA | apply wr_nilE | apply go_normal | apply go_ret | apply go_exit | apply blk_normal | apply blk_ret | apply blk_here | apply w_block | apply w_skip | apply w_exit | apply w_label)) | ((with_reducible first | apply wz (tok Try.prog) | apply wr_z (tok Try.prog)); exact zZ; decide) | ((with_reducible first | apply w_iff'); exact zV; exact zU) | fail
    all_goals try clear tE
    refine w_loopS (S := Nat) (fun i => [(0, .view (unRows a)), (1, .view (unRows b)), (5, .int .i64 (i : Int))]) (fun _ => []) [] (fun i => i ≤ a.length ∧ a.take i = b.take i) (fun i => a.length - i) 0 ?_ ⟨Nat.zero_le _, rfl⟩ ?_
    · (have tu0 : Pur _ := unRows_pur a; have tu1 : Pur _ := unRows_pur b; have tE := And.intro (@upd_upd AV) <| @upd_upd (Option Blk); exact kcanS [])
    · rintro i ⟨hi, ht⟩
      simp only [St.ofS, List.length_nil]
      by_cases e : i < a.length
      · obtain ⟨x, hx⟩ : ∃ x, a[i]? = some x := ⟨a[i], List.getElem?_eq_getElem e⟩
        obtain ⟨y, hy⟩ : ∃ y, b[i]? = some y := ⟨b[i]'(by omega), List.getElem?_eq_getElem _⟩
        have h1 : ((i : Int) < (a.length : Int)) = True := by simp; omega
        have h0 : (0 ≤ (i : Int)) = True := by simp
        have hr := un_row hx
        have hs := un_row hy
        have hw : IntKind.i64.wrap ((i : Int) + 1) = ((i + 1 : Nat) : Int) := by rw [wrap64 (by omega) (by omega)]; rfl
        by_cases hxy : x = y
        · have hb : decide (x = y) = true := by simp [hxy]
          have tE := And.intro (@upd_upd AV) <| And.intro (@upd_upd (Option Blk)) <| And.intro h1 <| And.intro h0 <| And.intro hr <| And.intro hs <| And.intro hw <| And.intro hb <| And.intro unRows_len <| And.intro ty3 <| And.intro ty4 <| And.intro ty5 <| And.intro ty55 <| And.intro ty56 <| And.intro ty58 <| Try.results40; repeat' first | ((with_reducible first | apply w_seq | apply w_region | apply wl_nil | apply wr_nil | apply wr_nilA | apply wr_nilE | apply go_normal | apply go_ret | apply go_exit | apply blk_normal | apply blk_ret | apply blk_here | apply w_block | apply w_skip | apply w_exit | apply w_label)) | ((with_reducible apply w_live (lvAt [[0, 1], [0, 1], [], [0, 1], [0, 1, 5], [0, 1, 5], [0, 1, 5], [], []])); (focus (simp only [lvAt_zero, lvAt_succ]; rfl)); exact zLv) | ((with_reducible first | apply wz (tok Try.prog) | apply wr_z (tok Try.prog)); exact zZ; decide) | ((with_reducible first | apply wcall' | apply wr_call); exact zV; exact zVs; exact zAs; (focus (with_unfolding_all first | exact pf35 x y)); decide) | ((with_reducible first | apply w_ift'); exact zV; exact zU) | ((with_reducible first | apply w_iff'); exact zV; exact zU) | ((with_reducible first | apply w_draw0 mixed); (focus (decide +kernel))) | fail
          all_goals try clear tE
          refine ⟨i + 1, by omega, ⟨by omega, by rw [List.take_add_one, List.take_add_one, ht, hx, hy, hxy]⟩, ?_⟩
          (have tu0 : Pur _ := unRows_pur a; have tu1 : Pur _ := unRows_pur b; have tE := And.intro (@upd_upd AV) <| @upd_upd (Option Blk); exact kcanS [])
        · have hb : decide (x = y) = false := by simp [hxy]
          have tE := And.intro (@upd_upd AV) <| And.intro (@upd_upd (Option Blk)) <| And.intro h1 <| And.intro h0 <| And.intro hr <| And.intro hs <| And.intro hw <| And.intro hb <| And.intro unRows_len <| And.intro ty3 <| And.intro ty4 <| And.intro ty5 <| And.intro ty55 <| And.intro ty56 <| And.intro ty58 <| Try.results40; repeat' first | ((with_reducible first | apply w_seq | apply w_region | apply wl_nil | apply wr_nil | apply wr_nilA | apply wr_nilE | apply go_normal | apply go_ret | apply go_exit | apply blk_normal | apply blk_ret | apply blk_here | apply w_block | apply w_skip | apply w_exit | apply w_label)) | ((with_reducible apply w_live (lvAt [[0, 1], [0, 1], [], [0, 1], [0, 1, 5], [0, 1, 5], [0, 1, 5], [], []])); (focus (simp only [lvAt_zero, lvAt_succ]; rfl)); exact zLv) | ((with_reducible first | apply wz (tok Try.prog) | apply wr_z (tok Try.prog)); exact zZ; decide) | ((with_reducible first | apply wcall' | apply wr_call); exact zV; exact zVs; exact zAs; (focus (with_unfolding_all first | exact pf35 x y)); decide) | ((with_reducible first | apply w_ift'); exact zV; exact zU) | ((with_reducible first | apply w_draw0 mixed); (focus (decide +kernel))) | ((with_reducible apply w_ret); (repeat (with_reducible first | apply go_ret | apply blk_ret)); (with_reducible apply done_ret (tok Try.prog)); exact zT; exact zD; exact zX) | fail
          all_goals try clear tE
          have hab : a ≠ b := by rintro rfl; rw [hx] at hy; cases hy; exact hxy rfl
          simp [tup, hab]
      · have h1 : ((i : Int) < (a.length : Int)) = False := by simp; omega
        have e2 : i = a.length := by omega
        have tE := And.intro (@upd_upd AV) <| And.intro (@upd_upd (Option Blk)) <| And.intro h1 <| And.intro unRows_len <| And.intro ty3 <| And.intro ty4 <| And.intro ty5 <| And.intro ty55 <| And.intro ty56 <| And.intro ty58 <| Try.results40; repeat' first | ((with_reducible first | apply w_seq | apply w_region | apply wl_nil | apply wr_nil | apply wr_nilA | apply wr_nilE | apply go_normal | apply go_ret | apply go_exit | apply blk_normal | apply blk_ret | apply blk_here | apply w_block | apply w_skip | apply w_exit | apply w_label)) | ((with_reducible first | apply wz (tok Try.prog) | apply wr_z (tok Try.prog)); exact zZ; decide) | ((with_reducible first | apply w_iff'); exact zV; exact zU) | ((with_reducible apply w_ret); (repeat (with_reducible first | apply go_ret | apply blk_ret)); (with_reducible apply done_ret (tok Try.prog)); exact zT; exact zD; exact zX) | fail
        all_goals try clear tE
        subst e2
        have hab : a = b := by rw [List.take_length, List.take_of_length_le (by omega)] at ht; exact ht
        simp [tup, hab]
  · have hne : ((a.length : Int) != (b.length : Int)) = true := by simp; omega
    have tE := And.intro (@upd_upd AV) <| And.intro (@upd_upd (Option Blk)) <| And.intro hne <| And.intro unRows_len <| And.intro ty3 <| And.intro ty4 <| And.intro ty5 <| And.intro ty55 <| And.intro ty56 <| And.intro ty58 <| Try.results40; repeat' first | ((with_reducible first | apply w_seq | apply w_region | apply wl_nil | apply wr_nil | apply wr_nilA | apply wr_nilE | apply go_normal | apply go_ret | apply go_exit | apply blk_normal | apply blk_ret | apply blk_here | apply w_block | apply w_skip | apply w_exit | apply w_label)) | ((with_reducible first | apply wz (tok Try.prog) | apply wr_z (tok Try.prog)); exact zZ; decide) | ((with_reducible first | apply w_ift'); exact zV; exact zU) | ((with_reducible apply w_ret); (repeat (with_reducible first | apply go_ret | apply blk_ret)); (with_reducible apply done_ret (tok Try.prog)); exact zT; exact zD; exact zX) | fail
    all_goals try clear tE
    have hab : a ≠ b := fun h => el (by rw [h])
    simp [tup, hab]
theorem pf68 (a b : List Un) (ha : a.length ≤ 1000000) (g : FuncId) (hg : ∀ u v, u ∈ a → PF Try.prog g [.agg u.cells, .agg v.cells] (fun r => r = .bool (decide (u = v)))) : PF Try.prog 68 [.view (unRows a), .view (unRows b), .func (.func g) [] []] (fun r => r = .bool (decide (a = b))) := by
  have hfp : Pur (.func (.func g) [] []) := .func (fun x hx => by cases hx) (fun x hx => by cases hx)
  refine pf_of_w0 Try.func68 (c := _) rfl rfl (Nat.le_of_ble_eq_true rfl) (fun x hx => by
    simp only [List.mem_cons, List.not_mem_nil, or_false] at hx
    rcases hx with rfl | rfl | rfl
    · exact unRows_pur _
    · exact unRows_pur _
    · exact hfp) ?_
  rw [show Try.f68.ntmps = 32 from rfl]
  by_cases el : a.length = b.length
  · have hne : ((a.length : Int) != (b.length : Int)) = false := by simp [el]
    have tE := And.intro (@upd_upd AV) <| And.intro (@upd_upd (Option Blk)) <| And.intro hne <| And.intro unRows_len <| And.intro ty3 <| And.intro ty4 <| And.intro ty5 <| And.intro ty55 <| And.intro ty56 <| And.intro ty58 <| Try.results68; repeat' first | ((with_reducible first | apply w_seq | apply w_region | apply wl_nil | apply wr_nil | apply wr_nilA | apply wr_nilE | apply go_normal | apply go_ret | apply go_exit | apply blk_normal | apply blk_ret | apply blk_here | apply w_block | apply w_skip | apply w_exit | apply w_label)) | ((with_reducible first | apply wz (tok Try.prog) | apply wr_z (tok Try.prog)); exact zZ; decide) | ((with_reducible first | apply w_iff'); exact zV; exact zU) | fail
    all_goals try clear tE
    refine w_loopS (S := Nat) (fun i => [(1, .view (unRows b)), (2, .func (.func g) [] []), (15, .view (unRows a)), (16, .int .i64 (a.length : Int)), (17, .int .i64 (i : Int))]) (fun _ => []) [] (fun i => i ≤ a.length ∧ a.take i = b.take i) (fun i => a.length - i) 0 ?_ ⟨Nat.zero_le _, rfl⟩ ?_
    · (have tu0 : Pur _ := unRows_pur a; have tu1 : Pur _ := unRows_pur b; have tu2 : Pur _ := hfp; have tE := And.intro (@upd_upd AV) <| @upd_upd (Option Blk); exact kcanS [])
    · rintro i ⟨hi, ht⟩
      simp only [St.ofS, List.length_nil]
      by_cases e : i < a.length
      · obtain ⟨x, hx⟩ : ∃ x, a[i]? = some x := ⟨a[i], List.getElem?_eq_getElem e⟩
        obtain ⟨y, hy⟩ : ∃ y, b[i]? = some y := ⟨b[i]'(by omega), List.getElem?_eq_getElem _⟩
        have h1 : ((i : Int) < (a.length : Int)) = True := by simp; omega
        have h0 : (0 ≤ (i : Int)) = True := by simp
        have hr := un_row hx
        have hs := un_row hy
        have hw : IntKind.i64.wrap ((i : Int) + 1) = ((i + 1 : Nat) : Int) := by rw [wrap64 (by omega) (by omega)]; rfl
        by_cases hxy : x = y
        · have hb : decide (x = y) = true := by simp [hxy]
          have tE := And.intro (@upd_upd AV) <| And.intro (@upd_upd (Option Blk)) <| And.intro h1 <| And.intro h0 <| And.intro hr <| And.intro hs <| And.intro hw <| And.intro hb <| And.intro unRows_len <| And.intro ty3 <| And.intro ty4 <| And.intro ty5 <| And.intro ty55 <| And.intro ty56 <| And.intro ty58 <| Try.results68; repeat' first | ((with_reducible first | apply w_seq | apply w_region | apply wl_nil | apply wr_nil | apply wr_nilA | apply wr_nilE | apply go_normal | apply go_ret | apply go_exit | apply blk_normal | apply blk_ret | apply blk_here | apply w_block | apply w_skip | apply w_exit | apply w_label)) | ((with_reducible first | apply wz (tok Try.prog) | apply wr_z (tok Try.prog)); exact zZ; decide) | ((with_reducible first | apply w_alloc (tok Try.prog)); exact zT; decide) | ((with_reducible first | apply w_store (tok Try.prog)); exact zV; exact zV; exact zS) | ((with_reducible first | apply wcall' | apply wr_call); exact zV; exact zVs; exact zAs; (focus (with_unfolding_all first | exact hg x y (List.mem_of_getElem? hx))); decide) | ((with_reducible first | apply w_ift'); exact zV; exact zU) | ((with_reducible first | apply w_iff'); exact zV; exact zU) | fail
          all_goals try clear tE
          refine ⟨i + 1, by omega, ⟨by omega, by rw [List.take_add_one, List.take_add_one, ht, hx, hy, hxy]⟩, ?_⟩
          (have tu0 : Pur _ := unRows_pur a; have tu1 : Pur _ := unRows_pur b; have tu2 : Pur _ := hfp; have tE := And.intro (@upd_upd AV) <| @upd_upd (Option Blk); exact kcanS [])
        · have hb : decide (x = y) = false := by simp [hxy]
          have tE := And.intro (@upd_upd AV) <| And.intro (@upd_upd (Option Blk)) <| And.intro h1 <| And.intro h0 <| And.intro hr <| And.intro hs <| And.intro hw <| And.intro hb <| And.intro unRows_len <| And.intro ty3 <| And.intro ty4 <| And.intro ty5 <| And.intro ty55 <| And.intro ty56 <| And.intro ty58 <| Try.results68; repeat' first | ((with_reducible first | apply w_seq | apply w_region | apply wl_nil | apply wr_nil | apply wr_nilA | apply wr_nilE | apply go_normal | apply go_ret | apply go_exit | apply blk_normal | apply blk_ret | apply blk_here | apply w_block | apply w_skip | apply w_exit | apply w_label)) | ((with_reducible first | apply wz (tok Try.prog) | apply wr_z (tok Try.prog)); exact zZ; decide) | ((with_reducible first | apply w_alloc (tok Try.prog)); exact zT; decide) | ((with_reducible first | apply w_store (tok Try.prog)); exact zV; exact zV; exact zS) | ((with_reducible first | apply wcall' | apply wr_call); exact zV; exact zVs; exact zAs; (focus (with_unfolding_all first | exact hg x y (List.mem_of_getElem? hx))); decide) | ((with_reducible first | apply w_ift'); exact zV; exact zU) | ((with_reducible apply w_ret); (repeat (with_reducible first | apply go_ret | apply blk_ret)); (with_reducible apply done_ret (tok Try.prog)); exact zT; exact zD; exact zX) | fail
          all_goals try clear tE
          have hab : a ≠ b := by rintro rfl; rw [hx] at hy; cases hy; exact hxy rfl
          simp [tup, hab]
      · have h1 : ((i : Int) < (a.length : Int)) = False := by simp; omega
        have e2 : i = a.length := by omega
        have tE := And.intro (@upd_upd AV) <| And.intro (@upd_upd (Option Blk)) <| And.intro h1 <| And.intro unRows_len <| And.intro ty3 <| And.intro ty4 <| And.intro ty5 <| And.intro ty55 <| And.intro ty56 <| And.intro ty58 <| Try.results68; repeat' first | ((with_reducible first | apply w_seq | apply w_region | apply wl_nil | apply wr_nil | apply wr_nilA | apply wr_nilE | apply go_normal | apply go_ret | apply go_exit | apply blk_normal | apply blk_ret | apply blk_here | apply w_block | apply w_skip | apply w_exit | apply w_label)) | ((with_reducible first | apply wz (tok Try.prog) | apply wr_z (tok Try.prog)); exact zZ; decide) | ((with_reducible first | apply w_iff'); exact zV; exact zU) | ((with_reducible apply w_ret); (repeat (with_reducible first | apply go_ret | apply blk_ret)); (with_reducible apply done_ret (tok Try.prog)); exact zT; exact zD; exact zX) | fail
        all_goals try clear tE
        subst e2
        have hab : a = b := by rw [List.take_length, List.take_of_length_le (by omega)] at ht; exact ht
        simp [tup, hab]
  · have hne : ((a.length : Int) != (b.length : Int)) = true := by simp; omega
    have tE := And.intro (@upd_upd AV) <| And.intro (@upd_upd (Option Blk)) <| And.intro hne <| And.intro unRows_len <| And.intro ty3 <| And.intro ty4 <| And.intro ty5 <| And.intro ty55 <| And.intro ty56 <| And.intro ty58 <| Try.results68; repeat' first | ((with_reducible first | apply w_seq | apply w_region | apply wl_nil | apply wr_nil | apply wr_nilA | apply wr_nilE | apply go_normal | apply go_ret | apply go_exit | apply blk_normal | apply blk_ret | apply blk_here | apply w_block | apply w_skip | apply w_exit | apply w_label)) | ((with_reducible first | apply wz (tok Try.prog) | apply wr_z (tok Try.prog)); exact zZ; decide) | ((with_reducible first | apply w_ift'); exact zV; exact zU) | ((with_reducible apply w_ret); (repeat (with_reducible first | apply go_ret | apply blk_ret)); (with_reducible apply done_ret (tok Try.prog)); exact zT; exact zD; exact zX) | fail
    all_goals try clear tE
    have hab : a ≠ b := fun h => el (by rw [h])
    simp [tup, hab]
theorem pf42 (a b : List Un) (ha : a.length ≤ 1000000) (hd : ∀ u, u ∈ a → u.d.length ≤ 1000000) : PF Try.prog 42 [.view (unRows a), .view (unRows b)] (fun r => r = .bool (decide (a = b))) := by
  refine pf_of_w0 Try.func42 (c := _) rfl rfl (Nat.le_of_ble_eq_true rfl) (args_ll a b) ?_
  rw [show Try.f42.ntmps = 8 from rfl]
  have hs := pf68 a b ha 69 (fun u v hu => pf69 u v (hd u hu))
  have tE := And.intro (@upd_upd AV) <| And.intro (@upd_upd (Option Blk)) <| Try.results42; repeat' first | ((with_reducible first | apply w_seq | apply w_region | apply wl_nil | apply wr_nil | apply wr_nilA | apply wr_nilE | apply go_normal | apply go_ret | apply go_exit | apply blk_normal | apply blk_ret | apply blk_here | apply w_block | apply w_skip | apply w_exit | apply w_label)) | ((with_reducible first | apply wz (tok Try.prog) | apply wr_z (tok Try.prog)); exact zZ; decide) | ((with_reducible first | apply wcall' | apply wr_call); exact zV; exact zVs; exact zAs; (focus (with_unfolding_all first | exact hs)); decide) | ((with_reducible apply w_ret); (repeat (with_reducible first | apply go_ret | apply blk_ret)); (with_reducible apply done_ret (tok Try.prog)); exact zT; exact zD; exact zX) | fail
  all_goals try clear tE
  rfl
end Go.Proofs.Ytclldbeefbbdlaa
