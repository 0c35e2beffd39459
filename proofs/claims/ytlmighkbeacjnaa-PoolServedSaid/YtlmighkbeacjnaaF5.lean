/- Copies of lists: new slices. -/
import Derived.Test.YtlmighkbeacjnaaF4
open Go Go.Lg
set_option linter.unusedSimpArgs false
set_option linter.unusedVariables false
set_option maxHeartbeats 4000000
namespace Go.Proofs.Ytlmighkbeacjnaa
/-- Memory behind a copy. -/
def clH (H : Heap) (n : Nat) (e : TypeId) (rows : List (List AV)) : Heap := match rows with
  | [] => H
  | r :: rs => upd H n (some (.cells (r :: rs).flatten e))
def clN (n : Nat) (rows : List (List AV)) : Nat := match rows with
  | [] => n
  | _ :: _ => n + 1
theorem clN_le (n : Nat) (rows : List (List AV)) : n ≤ clN n rows := by cases rows <;> simp [clN]
theorem clH_old {H : Heap} {n : Nat} {e : TypeId} {rows : List (List AV)} {id : Nat} (h : id ≠ n) : clH H n e rows id = H id := by
  cases rows with
  | nil => rfl
  | cons r rs => exact upd_ne _ _ h
theorem clH_own {H : Heap} {n : Nat} {S : Nat → Prop} {e : TypeId} {sz : Nat} {rows : List (List AV)} (hlo : 0 < rows.length → S n) (hr : ∀ r, r ∈ rows → r.length = sz) (hf : ∀ x, x ∈ rows.flatten → Flat x) : Own (clH H n e rows) S (ownR n sz rows) (.view rows) := by
  cases rows with
  | nil => exact .nothing
  | cons r rs =>
    refine own_rows (len := (r :: rs).length) (hlo (Nat.succ_pos _)) (upd_same _ _ _) rfl hr ⟨rfl, fun i x y h1 h2 => ?_⟩
    rw [h1] at h2; cases h2
    exact (hf x (List.mem_of_getElem? h1)).own
theorem byteRows_flat (b : List UInt8) : ∀ x, x ∈ (byteRows b).flatten → Flat x := by
  intro x hx
  obtain ⟨r, h1, h2⟩ := List.mem_flatten.1 hx
  simp only [byteRows, List.mem_map] at h1
  obtain ⟨y, _, rfl⟩ := h1
  rcases List.mem_singleton.1 h2 with rfl; exact .int _ _
theorem intRows_flat (b : List Int) : ∀ x, x ∈ (intRows b).flatten → Flat x := by
  intro x hx
  obtain ⟨r, h1, h2⟩ := List.mem_flatten.1 hx
  simp only [intRows, List.mem_map] at h1
  obtain ⟨y, _, rfl⟩ := h1
  rcases List.mem_singleton.1 h2 with rfl; exact .int _ _
theorem pf64_nil : PF Try.prog 64 [.view (byteRows [])] (fun r => r = .empty) := by
  refine pf_of_wf0 Try.func64 (c := _) rfl rfl (Nat.le_of_ble_eq_true rfl) (args_1 (byteRows_pur [])) ?_
  rw [show Try.f64.ntmps = 8 from rfl]
  have tE := And.intro (@upd_upd AV) <| And.intro (@upd_upd (Option Blk)) <| And.intro ty5 <| And.intro ty34 <| Try.results64; repeat' first | ((with_reducible first | apply w_seq | apply w_region | apply wl_nil | apply wr_nil | apply wr_nilA | apply wr_nilE | apply go_normal | apply go_ret | apply go_exit | apply blk_normal | apply blk_ret | apply blk_here | apply w_block | apply w_skip | apply w_exit | apply w_label)) | ((with_reducible first | apply wz (tok Try.prog) | apply wr_z (tok Try.prog)); exact zZ; decide) | ((with_reducible first | apply wp | apply wr_p); (focus (first | ((with_reducible first | apply p_slv (tok Try.prog)); exact zT; exact zU; exact zT; exact zV; exact zN; exact zN; (focus (first | exact zU | exact zB)); (focus (first | exact zU | exact zB)); (focus (first | exact zU | assumption))) | ((with_reducible first | apply p_slo (tok Try.prog)); exact zT; exact zU; exact zT; exact zV; exact zN; exact zN; (focus (first | exact zU | exact zB)); (focus (first | exact zU | exact zB)); (focus (first | exact zU | assumption))) | ((with_reducible first | apply p_nil (tok Try.prog) | apply p_nnil (tok Try.prog)); exact zT; exact zV; exact zU) | ((with_reducible first | apply p_bs0 (tok Try.prog)); exact zT; exact zU; exact zT) | ((with_reducible first | apply p_ap0 (tok Try.prog)); exact zT; exact zU; exact zT; exact zT; exact zU; exact zA; exact zV; (focus (first | exact Or.inl rfl | exact Or.inr rfl))) | ((with_reducible first | apply p_bytes (tok Try.prog)); exact zT; exact zU; exact zT; exact zU; exact zT; exact zU; exact zV))); decide) | ((with_reducible first | apply wl_nilx (tok Try.prog)); (focus (first | exact Or.inl rfl | exact Or.inr rfl)); exact zT; exact zU; exact zV; (focus (first | exact Or.inl rfl | exact Or.inr ⟨_, rfl⟩)); decide; intro b; cases b) | ((with_reducible first | apply w_ift'); exact zV; exact zU) | ((with_reducible first | apply w_iff'); exact zV; exact zU) | ((with_reducible apply w_ret); (repeat (with_reducible first | apply go_ret | apply blk_ret)); (with_reducible first | apply donef_ret (tok Try.prog) | apply doneA_ret (tok Try.prog)); exact zT; exact zD) | fail
  all_goals try clear tE
  · exact .pur .empty
  · exact .empty
  · rfl
  · exact .pur .empty
  · exact .empty
  · rfl
theorem ac64_some (x : UInt8) (l : List UInt8) (hll : l.length ≤ 1000000) : AC Try.prog 64 [.view (byteRows (x :: l))] (hl []) 0 (fun r H _ => ∃ id, r = .ret (.slice id 0 (byteRows (x :: l)).length none 1) ∧ H id = some (.cells (byteRows (x :: l)).flatten 5)) := by
  refine ac_of_w Try.func64 (c := _) rfl (Nat.le_of_ble_eq_true rfl) ?_
  rw [show Try.f64.ntmps = 8 from rfl]
  have hr := byteRows_row (x :: l)
  have hbl := byteRows_len (x :: l)
  rw [List.length_cons] at hbl
  have tE := And.intro (@upd_upd AV) <| And.intro (@upd_upd (Option Blk)) <| And.intro hbl <| And.intro ty5 <| And.intro ty34 <| Try.results64; repeat' first | ((with_reducible first | apply w_seq | apply w_region | apply wl_nil | apply wr_nil | apply wr_nilA | apply wr_nilE | apply go_normal | apply go_ret | apply go_exit | apply blk_normal | apply blk_ret | apply blk_here | apply w_block | apply w_skip | apply w_exit | apply w_label)) | ((with_reducible first | apply wz (tok Try.prog) | apply wr_z (tok Try.prog)); exact zZ; decide) | ((with_reducible first | apply w_ap | apply wr_ap); (focus (first | (intro _ ho _ hr _; (with_reducible apply ap_new (tok Try.prog) ho (hr := hr)); exact zT; exact zU; exact zT; exact zT; exact zU; exact zA; exact zV; exact zK; exact zM; exact zK; exact zK; decide) | (intro _ ho _ hr _; (with_reducible apply ap_own (tok Try.prog) ho (hr := hr)); exact zT; exact zU; exact zT; exact zT; exact zU; exact zV; exact zV; exact zH; exact zKo; exact zM; (focus (first | rfl | assumption)); exact zKo; exact zKo; decide))); decide) | ((with_reducible first | apply wp | apply wr_p); (focus (first | ((with_reducible first | apply p_slv (tok Try.prog)); exact zT; exact zU; exact zT; exact zV; exact zN; exact zN; (focus (first | exact zU | exact zB)); (focus (first | exact zU | exact zB)); (focus (first | exact zU | assumption))) | ((with_reducible first | apply p_slo (tok Try.prog)); exact zT; exact zU; exact zT; exact zV; exact zN; exact zN; (focus (first | exact zU | exact zB)); (focus (first | exact zU | exact zB)); (focus (first | exact zU | assumption))) | ((with_reducible first | apply p_nil (tok Try.prog) | apply p_nnil (tok Try.prog)); exact zT; exact zV; exact zU) | ((with_reducible first | apply p_bs0 (tok Try.prog)); exact zT; exact zU; exact zT) | ((with_reducible first | apply p_ap0 (tok Try.prog)); exact zT; exact zU; exact zT; exact zT; exact zU; exact zA; exact zV; (focus (first | exact Or.inl rfl | exact Or.inr rfl))) | ((with_reducible first | apply p_bytes (tok Try.prog)); exact zT; exact zU; exact zT; exact zU; exact zT; exact zU; exact zV))); decide) | ((with_reducible first | apply w_iff'); exact zV; exact zU) | ((with_reducible apply w_ret); (repeat (with_reducible first | apply go_ret | apply blk_ret)); (with_reducible first | apply donef_ret (tok Try.prog) | apply doneA_ret (tok Try.prog)); exact zT; exact zD) | fail
  all_goals try clear tE
  exact ⟨0, by rw [hbl]; rfl, rfl⟩
theorem cal64 : Callable Try.prog 64 := ⟨_, Try.func64, rfl, rfl⟩
/-- The copy is told by the memory ahead of it. -/
theorem ac64 (l : List UInt8) (hll : l.length ≤ 1000000) (H : Heap) (n : Nat) : AC Try.prog 64 [.view (byteRows l)] H n (fun r H' n' => r = .ret (ownR n 1 (byteRows l)) ∧ H' = clH H n 5 (byteRows l) ∧ n' = clN n (byteRows l)) := by
  cases l with
  | nil =>
    refine (ac_pure pf64_nil H n).mono ?_
    rintro r H' n' ⟨rfl, rfl, x, rfl, _, rfl⟩
    exact ⟨rfl, rfl, rfl⟩
  | cons x l =>
    simp only [List.length_cons] at hll
    refine (ac_own1 (F := fun len cap sz cs e => len = (byteRows (x :: l)).length ∧ cap = none ∧ sz = 1 ∧ cs = (byteRows (x :: l)).flatten ∧ e = 5) (args_1 (byteRows_pur (x :: l))) ((ac64_some x l (by omega)).mono ?_) H n).mono ?_
    · rintro r H n ⟨id, hr, hH⟩
      exact ⟨id, _, _, _, _, _, hr, hH, flat_pur (byteRows_pur (x :: l)), rfl, rfl, rfl, rfl, rfl⟩
    · rintro r H n ⟨len, cap, sz, cs, e, h1, h2, h3, rfl, rfl, rfl, rfl, rfl⟩
      exact ⟨h1, h2, h3⟩
theorem pf74_nil : PF Try.prog 74 [.view (intRows [])] (fun r => r = .empty) := by
  refine pf_of_wf0 Try.func74 (c := _) rfl rfl (Nat.le_of_ble_eq_true rfl) (args_1 (intRows_pur [])) ?_
  rw [show Try.f74.ntmps = 8 from rfl]
  have tE := And.intro (@upd_upd AV) <| And.intro (@upd_upd (Option Blk)) <| And.intro ty3 <| And.intro ty35 <| Try.results74; repeat' first | ((with_reducible first | apply w_seq | apply w_region | apply wl_nil | apply wr_nil | apply wr_nilA | apply wr_nilE | apply go_normal | apply go_ret | apply go_exit | apply blk_normal | apply blk_ret | apply blk_here | apply w_block | apply w_skip | apply w_exit | apply w_label)) | ((with_reducible first | apply wz (tok Try.prog) | apply wr_z (tok Try.prog)); exact zZ; decide) | ((with_reducible first | apply wp | apply wr_p); (focus (first | ((with_reducible first | apply p_slv (tok Try.prog)); exact zT; exact zU; exact zT; exact zV; exact zN; exact zN; (focus (first | exact zU | exact zB)); (focus (first | exact zU | exact zB)); (focus (first | exact zU | assumption))) | ((with_reducible first | apply p_slo (tok Try.prog)); exact zT; exact zU; exact zT; exact zV; exact zN; exact zN; (focus (first | exact zU | exact zB)); (focus (first | exact zU | exact zB)); (focus (first | exact zU | assumption))) | ((with_reducible first | apply p_nil (tok Try.prog) | apply p_nnil (tok Try.prog)); exact zT; exact zV; exact zU) | ((with_reducible first | apply p_bs0 (tok Try.prog)); exact zT; exact zU; exact zT) | ((with_reducible first | apply p_ap0 (tok Try.prog)); exact zT; exact zU; exact zT; exact zT; exact zU; exact zA; exact zV; (focus (first | exact Or.inl rfl | exact Or.inr rfl))) | ((with_reducible first | apply p_bytes (tok Try.prog)); exact zT; exact zU; exact zT; exact zU; exact zT; exact zU; exact zV))); decide) | ((with_reducible first | apply wl_nilx (tok Try.prog)); (focus (first | exact Or.inl rfl | exact Or.inr rfl)); exact zT; exact zU; exact zV; (focus (first | exact Or.inl rfl | exact Or.inr ⟨_, rfl⟩)); decide; intro b; cases b) | ((with_reducible first | apply w_ift'); exact zV; exact zU) | ((with_reducible first | apply w_iff'); exact zV; exact zU) | ((with_reducible apply w_ret); (repeat (with_reducible first | apply go_ret | apply blk_ret)); (with_reducible first | apply donef_ret (tok Try.prog) | apply doneA_ret (tok Try.prog)); exact zT; exact zD) | fail
  all_goals try clear tE
  · exact .pur .empty
  · exact .empty
  · rfl
  · exact .pur .empty
  · exact .empty
  · rfl
theorem ac74_some (x : Int) (l : List Int) (hll : l.length ≤ 1000000) : AC Try.prog 74 [.view (intRows (x :: l))] (hl []) 0 (fun r H _ => ∃ id, r = .ret (.slice id 0 (intRows (x :: l)).length none 1) ∧ H id = some (.cells (intRows (x :: l)).flatten 3)) := by
  refine ac_of_w Try.func74 (c := _) rfl (Nat.le_of_ble_eq_true rfl) ?_
  rw [show Try.f74.ntmps = 8 from rfl]
  have hr := intRows_row (x :: l)
  have hbl := intRows_len (x :: l)
  rw [List.length_cons] at hbl
  have tE := And.intro (@upd_upd AV) <| And.intro (@upd_upd (Option Blk)) <| And.intro hbl <| And.intro ty3 <| And.intro ty35 <| Try.results74; repeat' first | ((with_reducible first | apply w_seq | apply w_region | apply wl_nil | apply wr_nil | apply wr_nilA | apply wr_nilE | apply go_normal | apply go_ret | apply go_exit | apply blk_normal | apply blk_ret | apply blk_here | apply w_block | apply w_skip | apply w_exit | apply w_label)) | ((with_reducible first | apply wz (tok Try.prog) | apply wr_z (tok Try.prog)); exact zZ; decide) | ((with_reducible first | apply w_ap | apply wr_ap); (focus (first | (intro _ ho _ hr _; (with_reducible apply ap_new (tok Try.prog) ho (hr := hr)); exact zT; exact zU; exact zT; exact zT; exact zU; exact zA; exact zV; exact zK; exact zM; exact zK; exact zK; decide) | (intro _ ho _ hr _; (with_reducible apply ap_own (tok Try.prog) ho (hr := hr)); exact zT; exact zU; exact zT; exact zT; exact zU; exact zV; exact zV; exact zH; exact zKo; exact zM; (focus (first | rfl | assumption)); exact zKo; exact zKo; decide))); decide) | ((with_reducible first | apply wp | apply wr_p); (focus (first | ((with_reducible first | apply p_slv (tok Try.prog)); exact zT; exact zU; exact zT; exact zV; exact zN; exact zN; (focus (first | exact zU | exact zB)); (focus (first | exact zU | exact zB)); (focus (first | exact zU | assumption))) | ((with_reducible first | apply p_slo (tok Try.prog)); exact zT; exact zU; exact zT; exact zV; exact zN; exact zN; (focus (first | exact zU | exact zB)); (focus (first | exact zU | exact zB)); (focus (first | exact zU | assumption))) | ((with_reducible first | apply p_nil (tok Try.prog) | apply p_nnil (tok Try.prog)); exact zT; exact zV; exact zU) | ((with_reducible first | apply p_bs0 (tok Try.prog)); exact zT; exact zU; exact zT) | ((with_reducible first | apply p_ap0 (tok Try.prog)); exact zT; exact zU; exact zT; exact zT; exact zU; exact zA; exact zV; (focus (first | exact Or.inl rfl | exact Or.inr rfl))) | ((with_reducible first | apply p_bytes (tok Try.prog)); exact zT; exact zU; exact zT; exact zU; exact zT; exact zU; exact zV))); decide) | ((with_reducible first | apply w_iff'); exact zV; exact zU) | ((with_reducible apply w_ret); (repeat (with_reducible first | apply go_ret | apply blk_ret)); (with_reducible first | apply donef_ret (tok Try.prog) | apply doneA_ret (tok Try.prog)); exact zT; exact zD) | fail
  all_goals try clear tE
  exact ⟨0, by rw [hbl]; rfl, rfl⟩
theorem cal74 : Callable Try.prog 74 := ⟨_, Try.func74, rfl, rfl⟩
/-- The copy is told by the memory ahead of it. -/
theorem ac74 (l : List Int) (hll : l.length ≤ 1000000) (H : Heap) (n : Nat) : AC Try.prog 74 [.view (intRows l)] H n (fun r H' n' => r = .ret (ownR n 1 (intRows l)) ∧ H' = clH H n 3 (intRows l) ∧ n' = clN n (intRows l)) := by
  cases l with
  | nil =>
    refine (ac_pure pf74_nil H n).mono ?_
    rintro r H' n' ⟨rfl, rfl, x, rfl, _, rfl⟩
    exact ⟨rfl, rfl, rfl⟩
  | cons x l =>
    simp only [List.length_cons] at hll
    refine (ac_own1 (F := fun len cap sz cs e => len = (intRows (x :: l)).length ∧ cap = none ∧ sz = 1 ∧ cs = (intRows (x :: l)).flatten ∧ e = 3) (args_1 (intRows_pur (x :: l))) ((ac74_some x l (by omega)).mono ?_) H n).mono ?_
    · rintro r H n ⟨id, hr, hH⟩
      exact ⟨id, _, _, _, _, _, hr, hH, flat_pur (intRows_pur (x :: l)), rfl, rfl, rfl, rfl, rfl⟩
    · rintro r H n ⟨len, cap, sz, cs, e, h1, h2, h3, rfl, rfl, rfl, rfl, rfl⟩
      exact ⟨h1, h2, h3⟩
theorem pf73_nil : PF Try.prog 73 [.view (frRows [])] (fun r => r = .empty) := by
  refine pf_of_wf0 Try.func73 (c := _) rfl rfl (Nat.le_of_ble_eq_true rfl) (args_1 (frRows_pur [])) ?_
  rw [show Try.f73.ntmps = 8 from rfl]
  have tE := And.intro (@upd_upd AV) <| And.intro (@upd_upd (Option Blk)) <| And.intro ty3 <| And.intro ty4 <| And.intro ty5 <| And.intro ty24 <| And.intro ty34 <| And.intro ty35 <| And.intro ty37 <| Try.results73; repeat' first | ((with_reducible first | apply w_seq | apply w_region | apply wl_nil | apply wr_nil | apply wr_nilA | apply wr_nilE | apply go_normal | apply go_ret | apply go_exit | apply blk_normal | apply blk_ret | apply blk_here | apply w_block | apply w_skip | apply w_exit | apply w_label)) | ((with_reducible first | apply wz (tok Try.prog) | apply wr_z (tok Try.prog)); exact zZ; decide) | ((with_reducible first | apply wp | apply wr_p); (focus (first | ((with_reducible first | apply p_slv (tok Try.prog)); exact zT; exact zU; exact zT; exact zV; exact zN; exact zN; (focus (first | exact zU | exact zB)); (focus (first | exact zU | exact zB)); (focus (first | exact zU | assumption))) | ((with_reducible first | apply p_slo (tok Try.prog)); exact zT; exact zU; exact zT; exact zV; exact zN; exact zN; (focus (first | exact zU | exact zB)); (focus (first | exact zU | exact zB)); (focus (first | exact zU | assumption))) | ((with_reducible first | apply p_nil (tok Try.prog) | apply p_nnil (tok Try.prog)); exact zT; exact zV; exact zU) | ((with_reducible first | apply p_bs0 (tok Try.prog)); exact zT; exact zU; exact zT) | ((with_reducible first | apply p_ap0 (tok Try.prog)); exact zT; exact zU; exact zT; exact zT; exact zU; exact zA; exact zV; (focus (first | exact Or.inl rfl | exact Or.inr rfl))) | ((with_reducible first | apply p_bytes (tok Try.prog)); exact zT; exact zU; exact zT; exact zU; exact zT; exact zU; exact zV))); decide) | ((with_reducible first | apply wl_nilx (tok Try.prog)); (focus (first | exact Or.inl rfl | exact Or.inr rfl)); exact zT; exact zU; exact zV; (focus (first | exact Or.inl rfl | exact Or.inr ⟨_, rfl⟩)); decide; intro b; cases b) | ((with_reducible first | apply w_ift'); exact zV; exact zU) | ((with_reducible first | apply w_iff'); exact zV; exact zU) | ((with_reducible apply w_ret); (repeat (with_reducible first | apply go_ret | apply blk_ret)); (with_reducible first | apply donef_ret (tok Try.prog) | apply doneA_ret (tok Try.prog)); exact zT; exact zD) | fail
  all_goals try clear tE
  · exact .pur .empty
  · exact .empty
  · rfl
  · exact .pur .empty
  · exact .empty
  · rfl
theorem ac73_some (x : Fr) (l : List Fr) (hll : l.length ≤ 1000000) : AC Try.prog 73 [.view (frRows (x :: l))] (hl []) 0 (fun r H _ => ∃ id, r = .ret (.slice id 0 (frRows (x :: l)).length none 6) ∧ H id = some (.cells (frRows (x :: l)).flatten 37)) := by
  refine ac_of_w Try.func73 (c := _) rfl (Nat.le_of_ble_eq_true rfl) ?_
  rw [show Try.f73.ntmps = 8 from rfl]
  have hr := frRows_row (x :: l)
  have hbl := frRows_len (x :: l)
  rw [List.length_cons] at hbl
  have tE := And.intro (@upd_upd AV) <| And.intro (@upd_upd (Option Blk)) <| And.intro hbl <| And.intro ty3 <| And.intro ty4 <| And.intro ty5 <| And.intro ty24 <| And.intro ty34 <| And.intro ty35 <| And.intro ty37 <| Try.results73; repeat' first | ((with_reducible first | apply w_seq | apply w_region | apply wl_nil | apply wr_nil | apply wr_nilA | apply wr_nilE | apply go_normal | apply go_ret | apply go_exit | apply blk_normal | apply blk_ret | apply blk_here | apply w_block | apply w_skip | apply w_exit | apply w_label)) | ((with_reducible first | apply wz (tok Try.prog) | apply wr_z (tok Try.prog)); exact zZ; decide) | ((with_reducible first | apply w_ap | apply wr_ap); (focus (first | (intro _ ho _ hr _; (with_reducible apply ap_new (tok Try.prog) ho (hr := hr)); exact zT; exact zU; exact zT; exact zT; exact zU; exact zA; exact zV; exact zK; exact zM; exact zK; exact zK; decide) | (intro _ ho _ hr _; (with_reducible apply ap_own (tok Try.prog) ho (hr := hr)); exact zT; exact zU; exact zT; exact zT; exact zU; exact zV; exact zV; exact zH; exact zKo; exact zM; (focus (first | rfl | assumption)); exact zKo; exact zKo; decide))); decide) | ((with_reducible first | apply wp | apply wr_p); (focus (first | ((with_reducible first | apply p_slv (tok Try.prog)); exact zT; exact zU; exact zT; exact zV; exact zN; exact zN; (focus (first | exact zU | exact zB)); (focus (first | exact zU | exact zB)); (focus (first | exact zU | assumption))) | ((with_reducible first | apply p_slo (tok Try.prog)); exact zT; exact zU; exact zT; exact zV; exact zN; exact zN; (focus (first | exact zU | exact zB)); (focus (first | exact zU | exact zB)); (focus (first | exact zU | assumption))) | ((with_reducible first | apply p_nil (tok Try.prog) | apply p_nnil (tok Try.prog)); exact zT; exact zV; exact zU) | ((with_reducible first | apply p_bs0 (tok Try.prog)); exact zT; exact zU; exact zT) | ((with_reducible first | apply p_ap0 (tok Try.prog)); exact zT; exact zU; exact zT; exact zT; exact zU; exact zA; exact zV; (focus (first | exact Or.inl rfl | exact Or.inr rfl))) | ((with_reducible first | apply p_bytes (tok Try.prog)); exact zT; exact zU; exact zT; exact zU; exact zT; exact zU; exact zV))); decide) | ((with_reducible first | apply w_iff'); exact zV; exact zU) | ((with_reducible apply w_ret); (repeat (with_reducible first | apply go_ret | apply blk_ret)); (with_reducible first | apply donef_ret (tok Try.prog) | apply doneA_ret (tok Try.prog)); exact zT; exact zD) | fail
  all_goals try clear tE
  exact ⟨0, by rw [hbl]; rfl, rfl⟩
theorem cal73 : Callable Try.prog 73 := ⟨_, Try.func73, rfl, rfl⟩
/-- The copy is told by the memory ahead of it. -/
theorem ac73 (l : List Fr) (hll : l.length ≤ 1000000) (H : Heap) (n : Nat) : AC Try.prog 73 [.view (frRows l)] H n (fun r H' n' => r = .ret (ownR n 6 (frRows l)) ∧ H' = clH H n 37 (frRows l) ∧ n' = clN n (frRows l)) := by
  cases l with
  | nil =>
    refine (ac_pure pf73_nil H n).mono ?_
    rintro r H' n' ⟨rfl, rfl, x, rfl, _, rfl⟩
    exact ⟨rfl, rfl, rfl⟩
  | cons x l =>
    simp only [List.length_cons] at hll
    refine (ac_own1 (F := fun len cap sz cs e => len = (frRows (x :: l)).length ∧ cap = none ∧ sz = 6 ∧ cs = (frRows (x :: l)).flatten ∧ e = 37) (args_1 (frRows_pur (x :: l))) ((ac73_some x l (by omega)).mono ?_) H n).mono ?_
    · rintro r H n ⟨id, hr, hH⟩
      exact ⟨id, _, _, _, _, _, hr, hH, flat_pur (frRows_pur (x :: l)), rfl, rfl, rfl, rfl, rfl⟩
    · rintro r H n ⟨len, cap, sz, cs, e, h1, h2, h3, rfl, rfl, rfl, rfl, rfl⟩
      exact ⟨h1, h2, h3⟩
end Go.Proofs.Ytlmighkbeacjnaa
