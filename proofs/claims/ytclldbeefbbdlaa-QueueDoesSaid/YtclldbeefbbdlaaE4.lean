/- Copies. -/
import Derived.Test.YtclldbeefbbdlaaE3
open Go Go.Lg
set_option linter.unusedSimpArgs false
set_option linter.unusedVariables false
set_option maxHeartbeats 4000000
namespace Go.Proofs.Ytclldbeefbbdlaa
theorem byteRows_row (b : List UInt8) : ∀ r, r ∈ byteRows b → r.length = 1 := by
  intro r hr
  simp only [byteRows, List.mem_map] at hr
  obtain ⟨y, _, rfl⟩ := hr; rfl
theorem unRows_row (l : List Un) : ∀ r, r ∈ unRows l → r.length = 4 := by
  intro r hr
  simp only [unRows, List.mem_map] at hr
  obtain ⟨y, _, rfl⟩ := hr; rfl
theorem pf72 (b : List UInt8) (hb : b.length ≤ 1000000) : PF Try.prog 72 [.view (byteRows b)] (fun r => r = .view (byteRows b)) := by
  refine pf_of_wf0 Try.func72 (c := _) rfl rfl (Nat.le_of_ble_eq_true rfl) (fun x hx => by rcases List.mem_singleton.1 hx with rfl; exact byteRows_pur b) ?_
  rw [show Try.f72.ntmps = 8 from rfl]
  cases b with
  | nil =>
    have tE := And.intro (@upd_upd AV) <| And.intro (@upd_upd (Option Blk)) <| And.intro ty5 <| And.intro ty56 <| Try.results72; repeat' first | ((with_reducible first | apply w_seq | apply w_region | apply wl_nil | apply wr_nil | apply wr_nilA | apply wr_nilE | apply go_normal | apply go_ret | apply go_exit | apply blk_normal | apply blk_ret | apply blk_here | apply w_block | apply w_skip | apply w_exit | apply w_label)) | ((with_reducible first | apply wz (tok Try.prog) | apply wr_z (tok Try.prog)); exact zZ; decide) | ((with_reducible first | apply wp | apply wr_p); (focus (first | ((with_reducible first | apply p_slv (tok Try.prog)); exact zT; exact zU; exact zT; exact zV; exact zN; exact zN; (focus (first | exact zU | exact zB)); (focus (first | exact zU | exact zB)); (focus (first | exact zU | assumption))) | ((with_reducible first | apply p_slo (tok Try.prog)); exact zT; exact zU; exact zT; exact zV; exact zN; exact zN; (focus (first | exact zU | exact zB)); (focus (first | exact zU | exact zB)); (focus (first | exact zU | assumption))) | ((with_reducible first | apply p_nil (tok Try.prog) | apply p_nnil (tok Try.prog)); exact zT; exact zV; exact zU) | ((with_reducible first | apply p_bs0 (tok Try.prog)); exact zT; exact zU; exact zT) | ((with_reducible first | apply p_ap0 (tok Try.prog)); exact zT; exact zU; exact zT; exact zT; exact zU; exact zA; exact zV; (focus (first | exact Or.inl rfl | exact Or.inr rfl))) | ((with_reducible first | apply p_bytes (tok Try.prog)); exact zT; exact zU; exact zT; exact zU; exact zT; exact zU; exact zV))); decide) | ((with_reducible first | apply wl_nilx (tok Try.prog)); (focus (first | exact Or.inl rfl | exact Or.inr rfl)); exact zT; exact zU; exact zV; (focus (first | exact Or.inl rfl | exact Or.inr ⟨_, rfl⟩)); decide; intro b; cases b) | ((with_reducible first | apply w_ift'); exact zV; exact zU) | ((with_reducible first | apply w_iff'); exact zV; exact zU) | ((with_reducible apply w_ret); (repeat (with_reducible first | apply go_ret | apply blk_ret)); (with_reducible first | apply donef_ret (tok Try.prog) | apply doneA_ret (tok Try.prog)); exact zT; exact zD) | fail
    all_goals try clear tE
    · exact .nothing
    · exact byteRows_pur []
    · rfl
    · exact .nothing
    · exact byteRows_pur []
    · rfl
  | cons x b =>
    have hr := byteRows_row (x :: b)
    have hbl := byteRows_len (x :: b)
    rw [List.length_cons] at hbl
    simp only [List.length_cons] at hb
    have tE := And.intro (@upd_upd AV) <| And.intro (@upd_upd (Option Blk)) <| And.intro hbl <| And.intro ty5 <| And.intro ty56 <| Try.results72; repeat' first | ((with_reducible first | apply w_seq | apply w_region | apply wl_nil | apply wr_nil | apply wr_nilA | apply wr_nilE | apply go_normal | apply go_ret | apply go_exit | apply blk_normal | apply blk_ret | apply blk_here | apply w_block | apply w_skip | apply w_exit | apply w_label)) | ((with_reducible first | apply wz (tok Try.prog) | apply wr_z (tok Try.prog)); exact zZ; decide) | ((with_reducible first | apply w_ap | apply wr_ap); (focus (first | (intro _ ho _ hr _; (with_reducible apply ap_new (tok Try.prog) ho (hr := hr)); exact zT; exact zU; exact zT; exact zT; exact zU; exact zA; exact zV; exact zK; exact zM; exact zK; exact zK; decide) | (intro _ ho _ hr _; (with_reducible apply ap_own (tok Try.prog) ho (hr := hr)); exact zT; exact zU; exact zT; exact zT; exact zU; exact zV; exact zV; exact zH; exact zKo; exact zM; (focus (first | rfl | assumption)); exact zKo; exact zKo; decide))); decide) | ((with_reducible first | apply wp | apply wr_p); (focus (first | ((with_reducible first | apply p_slv (tok Try.prog)); exact zT; exact zU; exact zT; exact zV; exact zN; exact zN; (focus (first | exact zU | exact zB)); (focus (first | exact zU | exact zB)); (focus (first | exact zU | assumption))) | ((with_reducible first | apply p_slo (tok Try.prog)); exact zT; exact zU; exact zT; exact zV; exact zN; exact zN; (focus (first | exact zU | exact zB)); (focus (first | exact zU | exact zB)); (focus (first | exact zU | assumption))) | ((with_reducible first | apply p_nil (tok Try.prog) | apply p_nnil (tok Try.prog)); exact zT; exact zV; exact zU) | ((with_reducible first | apply p_bs0 (tok Try.prog)); exact zT; exact zU; exact zT) | ((with_reducible first | apply p_ap0 (tok Try.prog)); exact zT; exact zU; exact zT; exact zT; exact zU; exact zA; exact zV; (focus (first | exact Or.inl rfl | exact Or.inr rfl))) | ((with_reducible first | apply p_bytes (tok Try.prog)); exact zT; exact zU; exact zT; exact zU; exact zT; exact zU; exact zV))); decide) | ((with_reducible first | apply w_iff'); exact zV; exact zU) | ((with_reducible apply w_ret); (repeat (with_reducible first | apply go_ret | apply blk_ret)); (with_reducible first | apply donef_ret (tok Try.prog) | apply doneA_ret (tok Try.prog)); exact zT; exact zD) | fail
    all_goals try clear tE
    · exact fz_rowsL hbl hr (byteRows_pur (x :: b)) (upd_same _ _ _)
    · exact byteRows_pur _
    · rfl
theorem pf71_nil : PF Try.prog 71 [.view (unRows [])] (fun r => r = .view (unRows [])) := by
  refine pf_of_wf0 Try.func71 (c := _) rfl rfl (Nat.le_of_ble_eq_true rfl) (fun x hx => by rcases List.mem_singleton.1 hx with rfl; exact unRows_pur []) ?_
  rw [show Try.f71.ntmps = 8 from rfl]
  have tE := And.intro (@upd_upd AV) <| And.intro (@upd_upd (Option Blk)) <| And.intro ty3 <| And.intro ty5 <| And.intro ty55 <| And.intro ty56 <| And.intro ty58 <| Try.results71; repeat' first | ((with_reducible first | apply w_seq | apply w_region | apply wl_nil | apply wr_nil | apply wr_nilA | apply wr_nilE | apply go_normal | apply go_ret | apply go_exit | apply blk_normal | apply blk_ret | apply blk_here | apply w_block | apply w_skip | apply w_exit | apply w_label)) | ((with_reducible first | apply wz (tok Try.prog) | apply wr_z (tok Try.prog)); exact zZ; decide) | ((with_reducible first | apply wp | apply wr_p); (focus (first | ((with_reducible first | apply p_slv (tok Try.prog)); exact zT; exact zU; exact zT; exact zV; exact zN; exact zN; (focus (first | exact zU | exact zB)); (focus (first | exact zU | exact zB)); (focus (first | exact zU | assumption))) | ((with_reducible first | apply p_slo (tok Try.prog)); exact zT; exact zU; exact zT; exact zV; exact zN; exact zN; (focus (first | exact zU | exact zB)); (focus (first | exact zU | exact zB)); (focus (first | exact zU | assumption))) | ((with_reducible first | apply p_nil (tok Try.prog) | apply p_nnil (tok Try.prog)); exact zT; exact zV; exact zU) | ((with_reducible first | apply p_bs0 (tok Try.prog)); exact zT; exact zU; exact zT) | ((with_reducible first | apply p_ap0 (tok Try.prog)); exact zT; exact zU; exact zT; exact zT; exact zU; exact zA; exact zV; (focus (first | exact Or.inl rfl | exact Or.inr rfl))) | ((with_reducible first | apply p_bytes (tok Try.prog)); exact zT; exact zU; exact zT; exact zU; exact zT; exact zU; exact zV))); decide) | ((with_reducible first | apply wl_nilx (tok Try.prog)); (focus (first | exact Or.inl rfl | exact Or.inr rfl)); exact zT; exact zU; exact zV; (focus (first | exact Or.inl rfl | exact Or.inr ⟨_, rfl⟩)); decide; intro b; cases b) | ((with_reducible first | apply w_ift'); exact zV; exact zU) | ((with_reducible first | apply w_iff'); exact zV; exact zU) | ((with_reducible apply w_ret); (repeat (with_reducible first | apply go_ret | apply blk_ret)); (with_reducible first | apply donef_ret (tok Try.prog) | apply doneA_ret (tok Try.prog)); exact zT; exact zD) | fail
  all_goals try clear tE
  · exact .nothing
  · exact unRows_pur []
  · rfl
  · exact .nothing
  · exact unRows_pur []
  · rfl
theorem un_at {l : List Un} {i : Nat} {u : Un} (h : l[i]? = some u) {j : Nat} (hj : j < 4) : (unRows l).flatten[i * 4 + j]? = u.cells[j]? :=
  flat_at (unRows_row l) (r := u.cells) (by simp [unRows, h]) hj
theorem unFlat_len (l : List Un) : (unRows l).flatten.length = l.length * 4 := by
  rw [flat_len (unRows_row l), unRows_len]
theorem set_same {l : List AV} {i : Nat} {x : AV} (h : l[i]? = some x) : l.set i x = l := by
  refine List.ext_getElem? fun j => ?_
  rw [List.getElem?_set]
  split
  · rename_i e; subst e; split
    · exact h.symm
    · rename_i hlt; rw [List.getElem?_eq_none (by omega)] at h; cases h
  · rfl
theorem ac43 (l : List Un) (hl0 : 0 < l.length) (hl1 : l.length ≤ 1000000) (hd : ∀ u, u ∈ l → u.d.length ≤ 1000000) : AC Try.prog 43 [.view (unRows l)] (hl []) 0 (fun r H _ => ∃ id, r = .ret (.slice id 0 l.length none 4) ∧ H id = some (.cells (unRows l).flatten 58)) := by
  refine ac_of_w Try.func43 (c := _) rfl (Nat.le_of_ble_eq_true rfl) ?_
  rw [show Try.f43.ntmps = 24 from rfl]
  have hr := unRows_row l
  obtain ⟨u0, l0, rfl⟩ : ∃ u l', l = u :: l' := by cases l with
    | nil => cases hl0
    | cons u l' => exact ⟨u, l', rfl⟩
  have hun := unRows_len (u0 :: l0)
  simp only [List.length_cons] at hl1
  rw [List.length_cons] at hun
  have tE := And.intro (@upd_upd AV) <| And.intro (@upd_upd (Option Blk)) <| And.intro hun <| And.intro ty3 <| And.intro ty5 <| And.intro ty55 <| And.intro ty56 <| And.intro ty58 <| And.intro Try.results43 <| Try.results71; repeat' first | ((with_reducible first | apply w_seq | apply w_region | apply wl_nil | apply wr_nil | apply wr_nilA | apply wr_nilE | apply go_normal | apply go_ret | apply go_exit | apply blk_normal | apply blk_ret | apply blk_here | apply w_block | apply w_skip | apply w_exit | apply w_label)) | ((with_reducible first | apply wz (tok Try.prog) | apply wr_z (tok Try.prog)); exact zZ; decide) | ((with_reducible first | apply w_ap | apply wr_ap); (focus (first | (intro _ ho _ hr _; (with_reducible apply ap_new (tok Try.prog) ho (hr := hr)); exact zT; exact zU; exact zT; exact zT; exact zU; exact zA; exact zV; exact zK; exact zM; exact zK; exact zK; decide) | (intro _ ho _ hr _; (with_reducible apply ap_own (tok Try.prog) ho (hr := hr)); exact zT; exact zU; exact zT; exact zT; exact zU; exact zV; exact zV; exact zH; exact zKo; exact zM; (focus (first | rfl | assumption)); exact zKo; exact zKo; decide))); decide) | ((with_reducible first | apply wp | apply wr_p); (focus (first | ((with_reducible first | apply p_slv (tok Try.prog)); exact zT; exact zU; exact zT; exact zV; exact zN; exact zN; (focus (first | exact zU | exact zB)); (focus (first | exact zU | exact zB)); (focus (first | exact zU | assumption))) | ((with_reducible first | apply p_slo (tok Try.prog)); exact zT; exact zU; exact zT; exact zV; exact zN; exact zN; (focus (first | exact zU | exact zB)); (focus (first | exact zU | exact zB)); (focus (first | exact zU | assumption))) | ((with_reducible first | apply p_nil (tok Try.prog) | apply p_nnil (tok Try.prog)); exact zT; exact zV; exact zU) | ((with_reducible first | apply p_bs0 (tok Try.prog)); exact zT; exact zU; exact zT) | ((with_reducible first | apply p_ap0 (tok Try.prog)); exact zT; exact zU; exact zT; exact zT; exact zU; exact zA; exact zV; (focus (first | exact Or.inl rfl | exact Or.inr rfl))) | ((with_reducible first | apply p_bytes (tok Try.prog)); exact zT; exact zU; exact zT; exact zU; exact zT; exact zU; exact zV))); decide) | ((with_reducible first | apply wl_inl); exact zV; exact zVs; exact zAs; (focus (first | exact Try.func71)); (focus (rfl)); (focus (rfl)); (focus (rfl)); (focus (exact Nat.le_of_ble_eq_true rfl)); decide) | ((with_reducible apply w_ret); (repeat (with_reducible first | apply go_ret | apply blk_ret)); (with_reducible apply inl_ret (tok Try.prog)); exact zT; exact zD) | ((with_reducible first | apply w_iff'); exact zV; exact zU) | fail
  all_goals try clear tE
  refine w_loopS (S := Nat) (fun i => [(3, .slice 0 0 (l0.length + 1) none 4), (8, .int .i64 ((l0.length + 1 : Nat) : Int)), (9, .int .i64 (i : Int))]) (fun _ => [some (.cells (unRows (u0 :: l0)).flatten 58)]) [] (fun i => i ≤ l0.length + 1) (fun i => l0.length + 1 - i) 0 ?_ (Nat.zero_le _) ?_
  · (have tE := And.intro (@upd_upd AV) <| And.intro (@upd_upd (Option Blk)) <| hun; refine kcanS [0] (h6 := ?_)); clear tE
    exact ⟨⟨0, _, rfl, rfl, .cells (.purs (flat_pur (unRows_pur _)) rfl)⟩, trivial⟩
  · intro i hi
    simp only [St.ofS, List.length_nil, List.length_cons, Nat.zero_add]
    have hw : IntKind.i64.wrap ((i : Int) + 1) = ((i + 1 : Nat) : Int) := by rw [wrap64 (by omega) (by omega)]; rfl
    by_cases e : i < l0.length + 1
    · have h1 : ((i : Int) < ((l0.length + 1 : Nat) : Int)) = True := by simp; omega
      have h0 : (0 ≤ (i : Int)) = True := by simp
      obtain ⟨u, hu⟩ : ∃ u, (u0 :: l0)[i]? = some u := ⟨(u0 :: l0)[i]'(by simpa using e), List.getElem?_eq_getElem _⟩
      have hat : (unRows (u0 :: l0)).flatten[i * 4 + 3]? = some (.view (byteRows u.d)) := un_at hu (by decide)
      have w4 : ((unRows (u0 :: l0)).flatten.drop (i * 4 + 3))[0]? = some (.view (byteRows u.d)) := by rw [List.getElem?_drop, Nat.add_zero]; exact hat
      have w5 : (i * 4 + 3 + 1 ≤ (unRows (u0 :: l0)).flatten.length) = True := by rw [unFlat_len, List.length_cons]; simp; omega
      have w6 := set_same hat
      have tE := And.intro (@upd_upd AV) <| And.intro (@upd_upd (Option Blk)) <| And.intro h1 <| And.intro h0 <| And.intro hw <| And.intro w4 <| And.intro w5 <| And.intro w6 <| And.intro hun <| And.intro ty3 <| And.intro ty5 <| And.intro ty55 <| And.intro ty56 <| And.intro ty58 <| Try.results43; repeat' first | ((with_reducible first | apply w_seq | apply w_region | apply wl_nil | apply wr_nil | apply wr_nilA | apply wr_nilE | apply go_normal | apply go_ret | apply go_exit | apply blk_normal | apply blk_ret | apply blk_here | apply w_block | apply w_skip | apply w_exit | apply w_label)) | ((with_reducible first | apply wz (tok Try.prog) | apply wr_z (tok Try.prog)); exact zZ; decide) | ((with_reducible first | apply w_store (tok Try.prog)); exact zV; exact zV; exact zS) | ((with_reducible first | apply wcall' | apply wr_call); exact zV; exact zVs; exact zAs; (focus (with_unfolding_all first | exact pf72 u.d (hd u (List.mem_of_getElem? hu)))); decide) | ((with_reducible first | apply w_ift'); exact zV; exact zU) | fail
      all_goals try clear tE
      refine ⟨i + 1, by omega, by omega, ?_⟩
      (have tE := And.intro (@upd_upd AV) <| @upd_upd (Option Blk); refine kcanS [0] (h6 := ?_)); clear tE
      exact ⟨⟨0, _, rfl, rfl, .cells (.purs (flat_pur (unRows_pur _)) rfl)⟩, trivial⟩
    · have h1 : ((i : Int) < ((l0.length + 1 : Nat) : Int)) = False := by simp; omega
      have tE := And.intro (@upd_upd AV) <| And.intro (@upd_upd (Option Blk)) <| And.intro h1 <| And.intro hun <| And.intro ty3 <| And.intro ty5 <| And.intro ty55 <| And.intro ty56 <| And.intro ty58 <| Try.results43; repeat' first | ((with_reducible first | apply w_seq | apply w_region | apply wl_nil | apply wr_nil | apply wr_nilA | apply wr_nilE | apply go_normal | apply go_ret | apply go_exit | apply blk_normal | apply blk_ret | apply blk_here | apply w_block | apply w_skip | apply w_exit | apply w_label)) | ((with_reducible first | apply wz (tok Try.prog) | apply wr_z (tok Try.prog)); exact zZ; decide) | ((with_reducible first | apply w_iff'); exact zV; exact zU) | ((with_reducible apply w_ret); (repeat (with_reducible first | apply go_ret | apply blk_ret)); (with_reducible first | apply donef_ret (tok Try.prog) | apply doneA_ret (tok Try.prog)); exact zT; exact zD) | fail
      all_goals try clear tE
      exact ⟨0, rfl, rfl⟩
theorem pf43 (l : List Un) (hl1 : l.length ≤ 1000000) (hd : ∀ u, u ∈ l → u.d.length ≤ 1000000) : PF Try.prog 43 [.view (unRows l)] (fun r => r = .view (unRows l)) := by
  have ha : ∀ x, x ∈ [AV.view (unRows l)] → Pur x := fun x hx => by rcases List.mem_singleton.1 hx with rfl; exact unRows_pur l
  cases l with
  | nil =>
    refine pf_of_w0 Try.func43 (c := _) rfl rfl (Nat.le_of_ble_eq_true rfl) ha ?_
    rw [show Try.f43.ntmps = 24 from rfl]
    have e0 : ((((unRows []).length : Nat) : Int)) = 0 := rfl
    have tE := And.intro (@upd_upd AV) <| And.intro (@upd_upd (Option Blk)) <| And.intro e0 <| And.intro ty3 <| And.intro ty5 <| And.intro ty55 <| And.intro ty56 <| And.intro ty58 <| Try.results43; repeat' first | ((with_reducible first | apply w_seq | apply w_region | apply wl_nil | apply wr_nil | apply wr_nilA | apply wr_nilE | apply go_normal | apply go_ret | apply go_exit | apply blk_normal | apply blk_ret | apply blk_here | apply w_block | apply w_skip | apply w_exit | apply w_label)) | ((with_reducible first | apply wz (tok Try.prog) | apply wr_z (tok Try.prog)); exact zZ; decide) | ((with_reducible first | apply wcall' | apply wr_call); exact zV; exact zVs; exact zAs; (focus (with_unfolding_all first | exact pf71_nil)); decide) | fail
    all_goals try clear tE
    refine w_once ?_
    have hpu := unRows_pur []
    have tE := And.intro (@upd_upd AV) <| And.intro (@upd_upd (Option Blk)) <| And.intro e0 <| And.intro ty3 <| And.intro ty5 <| And.intro ty55 <| And.intro ty56 <| And.intro ty58 <| Try.results43; repeat' first | ((with_reducible first | apply w_seq | apply w_region | apply wl_nil | apply wr_nil | apply wr_nilA | apply wr_nilE | apply go_normal | apply go_ret | apply go_exit | apply blk_normal | apply blk_ret | apply blk_here | apply w_block | apply w_skip | apply w_exit | apply w_label)) | ((with_reducible first | apply wz (tok Try.prog) | apply wr_z (tok Try.prog)); exact zZ; decide) | ((with_reducible first | apply w_iff'); exact zV; exact zU) | ((with_reducible apply w_ret); (repeat (with_reducible first | apply go_ret | apply blk_ret)); (with_reducible apply done_ret (tok Try.prog)); exact zT; exact zD; exact zX) | fail
    all_goals try clear tE
    rfl
  | cons u0 l0 =>
    refine pf_of_fz ⟨_, Try.func43, rfl, rfl⟩ ha ((ac43 (u0 :: l0) (by simp) hl1 hd).mono ?_)
    rintro r H n ⟨id, rfl, hH⟩
    have := fz_rows (cap := none) (unRows_row (u0 :: l0)) (unRows_pur _) hH
    rw [unRows_len] at this
    exact ⟨_, _, rfl, this, unRows_pur _, rfl⟩
theorem pf65 (u : Un) (hd : u.d.length ≤ 1000000) : PF Try.prog 65 [.agg u.cells] (fun r => r = .agg u.cells) := by
  refine pf_of_wf0 Try.func65 (c := _) rfl rfl (Nat.le_of_ble_eq_true rfl) (fun x hx => by rcases List.mem_singleton.1 hx with rfl; exact .agg (un_pur u)) ?_
  rw [show Try.f65.ntmps = 9 from rfl]
  obtain ⟨k, p, f, d⟩ := u
  cases d with
  | nil =>
    have e0 : byteRows [] = [] := rfl
    have tE := And.intro (@upd_upd AV) <| And.intro (@upd_upd (Option Blk)) <| And.intro Un.cells.eq_1 <| And.intro e0 <| And.intro ty3 <| And.intro ty5 <| And.intro ty56 <| And.intro ty58 <| Try.results65; repeat' first | ((with_reducible first | apply w_seq | apply w_region | apply wl_nil | apply wr_nil | apply wr_nilA | apply wr_nilE | apply go_normal | apply go_ret | apply go_exit | apply blk_normal | apply blk_ret | apply blk_here | apply w_block | apply w_skip | apply w_exit | apply w_label)) | ((with_reducible apply l_box (d := 1)); exact zV; exact zU; decide) | ((with_reducible first | apply wz (tok Try.prog) | apply wr_z (tok Try.prog)); exact zZ; decide) | ((with_reducible first | apply w_alloc (tok Try.prog)); exact zT; decide) | ((with_reducible first | apply w_store (tok Try.prog)); exact zV; exact zV; exact zS) | ((with_reducible first | apply wp | apply wr_p); (focus (first | ((with_reducible first | apply p_slv (tok Try.prog)); exact zT; exact zU; exact zT; exact zV; exact zN; exact zN; (focus (first | exact zU | exact zB)); (focus (first | exact zU | exact zB)); (focus (first | exact zU | assumption))) | ((with_reducible first | apply p_slo (tok Try.prog)); exact zT; exact zU; exact zT; exact zV; exact zN; exact zN; (focus (first | exact zU | exact zB)); (focus (first | exact zU | exact zB)); (focus (first | exact zU | assumption))) | ((with_reducible first | apply p_nil (tok Try.prog) | apply p_nnil (tok Try.prog)); exact zT; exact zV; exact zU) | ((with_reducible first | apply p_bs0 (tok Try.prog)); exact zT; exact zU; exact zT) | ((with_reducible first | apply p_ap0 (tok Try.prog)); exact zT; exact zU; exact zT; exact zT; exact zU; exact zA; exact zV; (focus (first | exact Or.inl rfl | exact Or.inr rfl))) | ((with_reducible first | apply p_bytes (tok Try.prog)); exact zT; exact zU; exact zT; exact zU; exact zT; exact zU; exact zV))); decide) | ((with_reducible apply w_ret); (repeat (with_reducible first | apply go_ret | apply blk_ret)); (with_reducible first | apply donef_ret (tok Try.prog) | apply doneA_ret (tok Try.prog)); exact zT; exact zD) | fail
    all_goals try clear tE
    · exact FzL.agg (.cons (.pur (.int _ _)) (.cons (.pur (.int _ _)) (.cons (.pur (.int _ _)) (.cons .nothing .nil))))
    · exact .agg (un_pur ⟨k, p, f, []⟩)
    · rfl
  | cons x b =>
    have hr := byteRows_row (x :: b)
    have hbl := byteRows_len (x :: b)
    rw [List.length_cons] at hbl
    simp only [List.length_cons] at hd
    have tE := And.intro (@upd_upd AV) <| And.intro (@upd_upd (Option Blk)) <| And.intro Un.cells.eq_1 <| And.intro hbl <| And.intro ty3 <| And.intro ty5 <| And.intro ty56 <| And.intro ty58 <| Try.results65; repeat' first | ((with_reducible first | apply w_seq | apply w_region | apply wl_nil | apply wr_nil | apply wr_nilA | apply wr_nilE | apply go_normal | apply go_ret | apply go_exit | apply blk_normal | apply blk_ret | apply blk_here | apply w_block | apply w_skip | apply w_exit | apply w_label)) | ((with_reducible apply l_box (d := 1)); exact zV; exact zU; decide) | ((with_reducible first | apply wz (tok Try.prog) | apply wr_z (tok Try.prog)); exact zZ; decide) | ((with_reducible first | apply w_alloc (tok Try.prog)); exact zT; decide) | ((with_reducible first | apply w_store (tok Try.prog)); exact zV; exact zV; exact zS) | ((with_reducible first | apply w_ap | apply wr_ap); (focus (first | (intro _ ho _ hr _; (with_reducible apply ap_new (tok Try.prog) ho (hr := hr)); exact zT; exact zU; exact zT; exact zT; exact zU; exact zA; exact zV; exact zK; exact zM; exact zK; exact zK; decide) | (intro _ ho _ hr _; (with_reducible apply ap_own (tok Try.prog) ho (hr := hr)); exact zT; exact zU; exact zT; exact zT; exact zU; exact zV; exact zV; exact zH; exact zKo; exact zM; (focus (first | rfl | assumption)); exact zKo; exact zKo; decide))); decide) | ((with_reducible first | apply wp | apply wr_p); (focus (first | ((with_reducible first | apply p_slv (tok Try.prog)); exact zT; exact zU; exact zT; exact zV; exact zN; exact zN; (focus (first | exact zU | exact zB)); (focus (first | exact zU | exact zB)); (focus (first | exact zU | assumption))) | ((with_reducible first | apply p_slo (tok Try.prog)); exact zT; exact zU; exact zT; exact zV; exact zN; exact zN; (focus (first | exact zU | exact zB)); (focus (first | exact zU | exact zB)); (focus (first | exact zU | assumption))) | ((with_reducible first | apply p_nil (tok Try.prog) | apply p_nnil (tok Try.prog)); exact zT; exact zV; exact zU) | ((with_reducible first | apply p_bs0 (tok Try.prog)); exact zT; exact zU; exact zT) | ((with_reducible first | apply p_ap0 (tok Try.prog)); exact zT; exact zU; exact zT; exact zT; exact zU; exact zA; exact zV; (focus (first | exact Or.inl rfl | exact Or.inr rfl))) | ((with_reducible first | apply p_bytes (tok Try.prog)); exact zT; exact zU; exact zT; exact zU; exact zT; exact zU; exact zV))); decide) | ((with_reducible apply w_ret); (repeat (with_reducible first | apply go_ret | apply blk_ret)); (with_reducible first | apply donef_ret (tok Try.prog) | apply doneA_ret (tok Try.prog)); exact zT; exact zD) | fail
    all_goals try clear tE
    · simp only [tup]
      refine FzL.agg (ys := [.int .u8 k, .int .i64 p, .int .i64 f, .view (byteRows (x :: b))]) (.cons (.pur (.int _ _)) (.cons (.pur (.int _ _)) (.cons (.pur (.int _ _)) (.cons ?_ .nil))))
      exact fz_rowsL (e := 5) hbl hr (byteRows_pur (x :: b)) rfl
    · exact .agg (un_pur ⟨k, p, f, x :: b⟩)
    · rfl
theorem unRows_snoc (l : List Un) (u : Un) : (unRows l).flatten ++ u.cells = (unRows (l ++ [u])).flatten := by simp [unRows]
/-- The reference's copies: a new slice, or nothing. -/
theorem ac36 (l : List Un) (hl1 : l.length ≤ 1000000) (hd : ∀ u, u ∈ l → u.d.length ≤ 1000000) : AC Try.prog 36 [.view (unRows l)] (hl []) 0 (fun r H _ => (l = [] → r = .ret .empty) ∧ (0 < l.length → ∃ id, r = .ret (.slice id 0 l.length none 4) ∧ H id = some (.cells (unRows l).flatten 58))) := by
  refine ac_of_w Try.func36 (c := _) rfl (Nat.le_of_ble_eq_true rfl) ?_
  rw [show Try.f36.ntmps = 20 from rfl]
  have tE := And.intro (@upd_upd AV) <| And.intro (@upd_upd (Option Blk)) <| And.intro unRows_len <| And.intro ty3 <| And.intro ty5 <| And.intro ty55 <| And.intro ty56 <| And.intro ty58 <| Try.results36; repeat' first | ((with_reducible first | apply w_seq | apply w_region | apply wl_nil | apply wr_nil | apply wr_nilA | apply wr_nilE | apply go_normal | apply go_ret | apply go_exit | apply blk_normal | apply blk_ret | apply blk_here | apply w_block | apply w_skip | apply w_exit | apply w_label)) | ((with_reducible first | apply wz (tok Try.prog) | apply wr_z (tok Try.prog)); exact zZ; decide) | fail
  all_goals try clear tE
  refine w_loopS (S := Nat) (fun i => [(0, .view (unRows l)), (3, ownR 0 4 (unRows (l.take i))), (4, .int .i64 (i : Int))]) (fun i => [cellR 58 (unRows (l.take i))]) [] (fun i => i ≤ l.length) (fun i => l.length - i) 0 ?_ (Nat.zero_le _) ?_
  · have e0 : unRows (l.take 0) = [] := rfl
    (have tu0 : Pur _ := unRows_pur l; have tE := And.intro (@upd_upd AV) <| And.intro (@upd_upd (Option Blk)) <| And.intro e0 <| And.intro ownR.eq_1 <| cellR.eq_1; exact kcanS [0])
  · intro i hi
    simp only [St.ofS, List.length_nil, List.length_cons, Nat.zero_add]
    have hw : IntKind.i64.wrap ((i : Int) + 1) = ((i + 1 : Nat) : Int) := by rw [wrap64 (by omega) (by omega)]; rfl
    have hlen : (unRows (l.take i)).length = i := by rw [unRows_len, List.length_take]; omega
    have hlen1 : (i + 1 ≤ l.length) → (unRows (l.take (i + 1))).length = i + 1 := fun h => by rw [unRows_len, List.length_take]; omega
    by_cases e : i < l.length
    · have h1 : ((i : Int) < (l.length : Int)) = True := by simp; omega
      have h0 : (0 ≤ (i : Int)) = True := by simp
      obtain ⟨u, hu⟩ : ∃ u, l[i]? = some u := ⟨l[i], List.getElem?_eq_getElem e⟩
      have hr := un_row hu
      have htk : l.take (i + 1) = l.take i ++ [u] := by rw [List.take_add_one, hu]; rfl
      have h65 := pf65 u (hd u (List.mem_of_getElem? hu))
      cases i with
      | zero =>
        have e0 : unRows (l.take 0) = [] := rfl
        rw [e0, show ownR 0 4 [] = AV.empty from rfl, show cellR 58 [] = none from rfl]
        have tE := And.intro (@upd_upd AV) <| And.intro (@upd_upd (Option Blk)) <| And.intro h1 <| And.intro h0 <| And.intro hr <| And.intro hw <| And.intro unRows_len <| And.intro Un.cells.eq_1 <| And.intro ty3 <| And.intro ty5 <| And.intro ty55 <| And.intro ty56 <| And.intro ty58 <| Try.results36; repeat' first | ((with_reducible first | apply w_seq | apply w_region | apply wl_nil | apply wr_nil | apply wr_nilA | apply wr_nilE | apply go_normal | apply go_ret | apply go_exit | apply blk_normal | apply blk_ret | apply blk_here | apply w_block | apply w_skip | apply w_exit | apply w_label)) | ((with_reducible first | apply wz (tok Try.prog) | apply wr_z (tok Try.prog)); exact zZ; decide) | ((with_reducible first | apply wcall' | apply wr_call); exact zV; exact zVs; exact zAs; (focus (with_unfolding_all first | exact h65)); decide) | ((with_reducible first | apply w_ap | apply wr_ap); (focus (first | (intro _ ho _ hr _; (with_reducible apply ap_new (tok Try.prog) ho (hr := hr)); exact zT; exact zU; exact zT; exact zT; exact zU; exact zA; exact zV; exact zK; exact zM; exact zK; exact zK; decide) | (intro _ ho _ hr _; (with_reducible apply ap_own (tok Try.prog) ho (hr := hr)); exact zT; exact zU; exact zT; exact zT; exact zU; exact zV; exact zV; exact zH; exact zKo; exact zM; (focus (first | rfl | assumption)); exact zKo; exact zKo; decide))); decide) | ((with_reducible first | apply wp | apply wr_p); (focus (first | ((with_reducible first | apply pure_bs1 (tok Try.prog)); exact zT; exact zU; exact zT; exact zP; exact zR; exact zC; decide; decide; exact zU; exact zU))); decide) | ((with_reducible first | apply w_ift'); exact zV; exact zU) | fail
        all_goals try clear tE
        refine ⟨1, by omega, by omega, ?_⟩
        rw [ownR_pos 0 4 (show 0 < (unRows (l.take 1)).length by rw [hlen1 (by omega)]; omega), cellR_pos 58 (show 0 < (unRows (l.take 1)).length by rw [hlen1 (by omega)]; omega), hlen1 (by omega)]
        (have tu0 : Pur _ := unRows_pur l; have tE := And.intro (@upd_upd AV) <| @upd_upd (Option Blk); refine kcanS [1] (h6 := ?_)); clear tE
        refine ⟨⟨1, _, rfl, rfl, .cells (.purs (fun x hx => un_pur u x hx) ?_)⟩, trivial⟩
        rw [htk]; rfl
      | succ i =>
        rw [ownR_pos 0 4 (show 0 < (unRows (l.take (i + 1))).length by rw [hlen]; omega), cellR_pos 58 (show 0 < (unRows (l.take (i + 1))).length by rw [hlen]; omega), hlen]
        have hfl : (unRows (l.take (i + 1))).flatten.length = (i + 1) * 4 := by rw [unFlat_len, List.length_take]; omega
        have tE := And.intro (@upd_upd AV) <| And.intro (@upd_upd (Option Blk)) <| And.intro h1 <| And.intro h0 <| And.intro hr <| And.intro hw <| And.intro hfl <| And.intro unRows_len <| And.intro Un.cells.eq_1 <| And.intro ty3 <| And.intro ty5 <| And.intro ty55 <| And.intro ty56 <| And.intro ty58 <| Try.results36; repeat' first | ((with_reducible first | apply w_seq | apply w_region | apply wl_nil | apply wr_nil | apply wr_nilA | apply wr_nilE | apply go_normal | apply go_ret | apply go_exit | apply blk_normal | apply blk_ret | apply blk_here | apply w_block | apply w_skip | apply w_exit | apply w_label)) | ((with_reducible first | apply wz (tok Try.prog) | apply wr_z (tok Try.prog)); exact zZ; decide) | ((with_reducible first | apply wcall' | apply wr_call); exact zV; exact zVs; exact zAs; (focus (with_unfolding_all first | exact h65)); decide) | ((with_reducible first | apply w_ap | apply wr_ap); (focus (first | (intro _ ho _ hr _; (with_reducible apply ap_new (tok Try.prog) ho (hr := hr)); exact zT; exact zU; exact zT; exact zT; exact zU; exact zA; exact zV; exact zK; exact zM; exact zK; exact zK; decide) | (intro _ ho _ hr _; (with_reducible apply ap_own (tok Try.prog) ho (hr := hr)); exact zT; exact zU; exact zT; exact zT; exact zU; exact zV; exact zV; exact zH; exact zKo; exact zM; (focus (first | rfl | assumption)); exact zKo; exact zKo; decide))); decide) | ((with_reducible first | apply wp | apply wr_p); (focus (first | ((with_reducible first | apply pure_bs1 (tok Try.prog)); exact zT; exact zU; exact zT; exact zP; exact zR; exact zC; decide; decide; exact zU; exact zU))); decide) | ((with_reducible first | apply w_ift'); exact zV; exact zU) | fail
        all_goals try clear tE
        refine ⟨i + 1 + 1, by omega, by omega, ?_⟩
        rw [ownR_pos 0 4 (show 0 < (unRows (l.take (i + 1 + 1))).length by rw [hlen1 (by omega)]; omega), cellR_pos 58 (show 0 < (unRows (l.take (i + 1 + 1))).length by rw [hlen1 (by omega)]; omega), hlen1 (by omega)]
        (have tu0 : Pur _ := unRows_pur l; have tE := And.intro (@upd_upd AV) <| @upd_upd (Option Blk); refine kcanS [1] (h6 := ?_)); clear tE
        refine ⟨⟨1, _, rfl, rfl, .cells (.purs (fun x hx => ?_) ?_)⟩, trivial⟩
        · rcases List.mem_append.1 hx with h | h
          · exact flat_pur (unRows_pur _) x h
          · exact un_pur u x h
        · rw [htk]; exact unRows_snoc _ u
    · have h1 : ((i : Int) < (l.length : Int)) = False := by simp; omega
      have e2 : i = l.length := by omega
      have e3 : l.take i = l := List.take_of_length_le (by omega)
      rw [e3]
      rcases Nat.eq_zero_or_pos l.length with hz | hz
      · obtain rfl := List.eq_nil_of_length_eq_zero hz
        have e0 : unRows [] = [] := rfl
        rw [e0, show ownR 0 4 [] = AV.empty from rfl, show cellR 58 [] = none from rfl]
        have i0 : i = 0 := by simpa using e2
        subst i0
        have h1' : (((0 : Nat) : Int) < ((0 : Nat) : Int)) = False := by simp
        have tE := And.intro (@upd_upd AV) <| And.intro (@upd_upd (Option Blk)) <| And.intro h1' <| And.intro unRows_len <| And.intro ty3 <| And.intro ty5 <| And.intro ty55 <| And.intro ty56 <| And.intro ty58 <| Try.results36; repeat' first | ((with_reducible first | apply w_seq | apply w_region | apply wl_nil | apply wr_nil | apply wr_nilA | apply wr_nilE | apply go_normal | apply go_ret | apply go_exit | apply blk_normal | apply blk_ret | apply blk_here | apply w_block | apply w_skip | apply w_exit | apply w_label)) | ((with_reducible first | apply wz (tok Try.prog) | apply wr_z (tok Try.prog)); exact zZ; decide) | ((with_reducible first | apply w_iff'); exact zV; exact zU) | ((with_reducible apply w_ret); (repeat (with_reducible first | apply go_ret | apply blk_ret)); (with_reducible first | apply donef_ret (tok Try.prog) | apply doneA_ret (tok Try.prog)); exact zT; exact zD) | fail
        all_goals try clear tE
        exact ⟨fun _ => rfl, fun h => (by cases h)⟩
      · rw [ownR_pos 0 4 (show 0 < (unRows l).length by rw [unRows_len]; exact hz), cellR_pos 58 (show 0 < (unRows l).length by rw [unRows_len]; exact hz), unRows_len]
        have tE := And.intro (@upd_upd AV) <| And.intro (@upd_upd (Option Blk)) <| And.intro h1 <| And.intro unRows_len <| And.intro ty3 <| And.intro ty5 <| And.intro ty55 <| And.intro ty56 <| And.intro ty58 <| Try.results36; repeat' first | ((with_reducible first | apply w_seq | apply w_region | apply wl_nil | apply wr_nil | apply wr_nilA | apply wr_nilE | apply go_normal | apply go_ret | apply go_exit | apply blk_normal | apply blk_ret | apply blk_here | apply w_block | apply w_skip | apply w_exit | apply w_label)) | ((with_reducible first | apply wz (tok Try.prog) | apply wr_z (tok Try.prog)); exact zZ; decide) | ((with_reducible first | apply w_iff'); exact zV; exact zU) | ((with_reducible apply w_ret); (repeat (with_reducible first | apply go_ret | apply blk_ret)); (with_reducible first | apply donef_ret (tok Try.prog) | apply doneA_ret (tok Try.prog)); exact zT; exact zD) | fail
        all_goals try clear tE
        exact ⟨fun h => (by subst h; cases hz), fun _ => ⟨0, rfl, rfl⟩⟩
theorem pf36 (l : List Un) (hl1 : l.length ≤ 1000000) (hd : ∀ u, u ∈ l → u.d.length ≤ 1000000) : PF Try.prog 36 [.view (unRows l)] (fun r => r = .view (unRows l)) := by
  refine pf_of_fz ⟨_, Try.func36, rfl, rfl⟩ (fun x hx => by rcases List.mem_singleton.1 hx with rfl; exact unRows_pur l) ((ac36 l hl1 hd).mono ?_)
  rintro r H n ⟨h1, h2⟩
  by_cases h : l = []
  · subst h
    exact ⟨_, _, h1 rfl, .nothing, unRows_pur [], rfl⟩
  · obtain ⟨id, hr, hH⟩ := h2 (by cases l with | nil => exact absurd rfl h | cons u l => simp)
    exact ⟨_, _, hr, fz_rowsL (unRows_len l) (unRows_row l) (unRows_pur l) hH, unRows_pur l, rfl⟩
theorem ac36o (l : List Un) (hl0 : 0 < l.length) (hl1 : l.length ≤ 1000000) (hd : ∀ u, u ∈ l → u.d.length ≤ 1000000) (H : Heap) (n : Nat) : AC Try.prog 36 [.view (unRows l)] H n (fun r H' n' => r = .ret (.slice n 0 l.length none 4) ∧ H' = upd H n (some (.cells (unRows l).flatten 58)) ∧ n' = n + 1) := by
  refine (ac_own1 (F := fun len cap sz cs e => len = l.length ∧ cap = none ∧ sz = 4 ∧ cs = (unRows l).flatten ∧ e = 58) (fun x hx => by rcases List.mem_singleton.1 hx with rfl; exact unRows_pur l) ((ac36 l hl1 hd).mono ?_) H n).mono ?_
  · rintro r H n ⟨_, h2⟩
    obtain ⟨id, hr, hH⟩ := h2 hl0
    exact ⟨id, _, _, _, _, _, hr, hH, flat_pur (unRows_pur l), rfl, rfl, rfl, rfl, rfl⟩
  · rintro r H n ⟨len, cap, sz, cs, e, h1, h2, h3, rfl, rfl, rfl, rfl, rfl⟩
    exact ⟨h1, h2, h3⟩
theorem ac43o (l : List Un) (hl0 : 0 < l.length) (hl1 : l.length ≤ 1000000) (hd : ∀ u, u ∈ l → u.d.length ≤ 1000000) (H : Heap) (n : Nat) : AC Try.prog 43 [.view (unRows l)] H n (fun r H' n' => r = .ret (.slice n 0 l.length none 4) ∧ H' = upd H n (some (.cells (unRows l).flatten 58)) ∧ n' = n + 1) := by
  refine (ac_own1 (F := fun len cap sz cs e => len = l.length ∧ cap = none ∧ sz = 4 ∧ cs = (unRows l).flatten ∧ e = 58) (fun x hx => by rcases List.mem_singleton.1 hx with rfl; exact unRows_pur l) ((ac43 l hl0 hl1 hd).mono ?_) H n).mono ?_
  · rintro r H n ⟨id, hr, hH⟩
    exact ⟨id, _, _, _, _, _, hr, hH, flat_pur (unRows_pur l), rfl, rfl, rfl, rfl, rfl⟩
  · rintro r H n ⟨len, cap, sz, cs, e, h1, h2, h3, rfl, rfl, rfl, rfl, rfl⟩
    exact ⟨h1, h2, h3⟩
end Go.Proofs.Ytclldbeefbbdlaa
