/- Copies of lists: new slices. frames.Twin: new memory. The reference's copies. The clock's round, and frames.Victim. FramesClock: what the clock takes; plain. FramesClock: the law computes true. FramesClock: the law computes true. -/
import Derived.Test.YtlmighkbeacjnaaGreatDoorYb
import Derived.Test.YtlmighkbeacjnaaGreatDoorLm6

open Go Go.Lg
set_option linter.unusedSimpArgs false
set_option linter.unusedVariables false
set_option maxHeartbeats 4000000
namespace Go.Proofs.YtlmighkbeacjnaaGreatDoor
/-- Memory behind a copy. -/
def clH (H : Heap) (n : Nat) (e : TypeId) (rows : List (List AV)) : Heap := match rows with
  | [] => H
  | r :: rs => upd H n (some (.cells (r :: rs).flatten e))
def clN (n : Nat) (rows : List (List AV)) : Nat := match rows with
  | [] => n
  | _ :: _ => n + 1
theorem clN_le (n : Nat) (rows : List (List AV)) : n ≤ clN n rows := by cases rows <;> simp [clN]
theorem clH_old {H : Heap} {n : Nat} {e : TypeId} {rows : List (List AV)} {id : Nat} (h : id ≠ n) : clH H n e rows id = H id := by
  cases rows with
  | nil => rfl
  | cons r rs => exact upd_ne _ _ h
theorem clH_own {H : Heap} {n : Nat} {S : Nat → Prop} {e : TypeId} {sz : Nat} {rows : List (List AV)} (hlo : 0 < rows.length → S n) (hr : ∀ r, r ∈ rows → r.length = sz) (hf : ∀ x, x ∈ rows.flatten → Flat x) : Own (clH H n e rows) S (ownR n sz rows) (.view rows) := by
  cases rows with
  | nil => exact .nothing
  | cons r rs =>
    refine own_rows (len := (r :: rs).length) (hlo (Nat.succ_pos _)) (upd_same _ _ _) rfl hr ⟨rfl, fun i x y h1 h2 => ?_⟩
    rw [h1] at h2; cases h2
    exact (hf x (List.mem_of_getElem? h1)).own
theorem byteRows_flat (b : List UInt8) : ∀ x, x ∈ (byteRows b).flatten → Flat x := by
  intro x hx
  obtain ⟨r, h1, h2⟩ := List.mem_flatten.1 hx
  simp only [byteRows, List.mem_map] at h1
  obtain ⟨y, _, rfl⟩ := h1
  rcases List.mem_singleton.1 h2 with rfl; exact .int _ _
theorem intRows_flat (b : List Int) : ∀ x, x ∈ (intRows b).flatten → Flat x := by
  intro x hx
  obtain ⟨r, h1, h2⟩ := List.mem_flatten.1 hx
  simp only [intRows, List.mem_map] at h1
  obtain ⟨y, _, rfl⟩ := h1
  rcases List.mem_singleton.1 h2 with rfl; exact .int _ _
theorem pf42_nil : PF Tryz.prog 42 [.view (byteRows [])] (fun r => r = .empty) := by
  refine pf_of_wf0 Tryz.func42 (c := _) rfl rfl (Nat.le_of_ble_eq_true rfl) (args_1 (byteRows_pur [])) ?_
  rw [show Tryz.f42.ntmps = 8 from rfl]
  have tE := And.intro (@upd_upd AV) <| And.intro (@upd_upd (Option Blk)) <| And.intro ty5 <| And.intro ty28 <| Tryz.results42; repeat' first | ((with_reducible first | apply w_seq | apply w_region | apply wl_nil | apply wr_nil | apply wr_nilA | apply wr_nilE | apply go_normal | apply go_ret | apply go_exit | apply blk_normal | apply blk_ret | apply blk_here | apply w_block | apply w_skip | apply w_exit | apply w_label)) | ((with_reducible first | apply wz (tok Tryz.prog) | apply wr_z (tok Tryz.prog)); exact zZ; decide) | ((with_reducible first | apply wp | apply wr_p); (focus (first | ((with_reducible first | apply p_slv (tok Tryz.prog)); exact zT; exact zU; exact zT; exact zV; exact zN; exact zN; (focus (first | exact zU | exact zB)); (focus (first | exact zU | exact zB)); (focus (first | exact zU | assumption))) | ((with_reducible first | apply p_slo (tok Tryz.prog)); exact zT; exact zU; exact zT; exact zV; exact zN; exact zN; (focus (first | exact zU | exact zB)); (focus (first | exact zU | exact zB)); (focus (first | exact zU | assumption))) | ((with_reducible first | apply p_nil (tok Tryz.prog) | apply p_nnil (tok Tryz.prog)); exact zT; exact zV; exact zU) | ((with_reducible first | apply p_bs0 (tok Tryz.prog)); exact zT; exact zU; exact zT) | ((with_reducible first | apply p_ap0 (tok Tryz.prog)); exact zT; exact zU; exact zT; exact zT; exact zU; exact zA; exact zV; (focus (first | exact Or.inl rfl | exact Or.inr rfl))) | ((with_reducible first | apply p_bytes (tok Tryz.prog)); exact zT; exact zU; exact zT; exact zU; exact zT; exact zU; exact zV))); decide) | ((with_reducible first | apply wl_nilx (tok Tryz.prog)); (focus (first | exact Or.inl rfl | exact Or.inr rfl)); exact zT; exact zU; exact zV; (focus (first | exact Or.inl rfl | exact Or.inr ⟨_, rfl⟩)); decide; intro b; cases b) | ((with_reducible first | apply w_ift'); exact zV; exact zU) | ((with_reducible first | apply w_iff'); exact zV; exact zU) | ((with_reducible apply w_ret); (repeat (with_reducible first | apply go_ret | apply blk_ret)); (with_reducible first | apply donef_ret (tok Tryz.prog) | apply doneA_ret (tok Tryz.prog)); exact zT; exact zD) | fail
  all_goals try clear tE
  · exact .pur .empty
  · exact .empty
  · rfl
  · exact .pur .empty
  · exact .empty
  · rfl
theorem ac42_some (x : UInt8) (l : List UInt8) (hll : l.length ≤ 1000000) : AC Tryz.prog 42 [.view (byteRows (x :: l))] (hl []) 0 (fun r H _ => ∃ id, r = .ret (.slice id 0 (byteRows (x :: l)).length none 1) ∧ H id = some (.cells (byteRows (x :: l)).flatten 5)) := by
  refine ac_of_w Tryz.func42 (c := _) rfl (Nat.le_of_ble_eq_true rfl) ?_
  rw [show Tryz.f42.ntmps = 8 from rfl]
  have hr := byteRows_row (x :: l)
  have hbl := byteRows_len (x :: l)
  rw [List.length_cons] at hbl
  have tE := And.intro (@upd_upd AV) <| And.intro (@upd_upd (Option Blk)) <| And.intro hbl <| And.intro ty5 <| And.intro ty28 <| Tryz.results42; repeat' first | ((with_reducible first | apply w_seq | apply w_region | apply wl_nil | apply wr_nil | apply wr_nilA | apply wr_nilE | apply go_normal | apply go_ret | apply go_exit | apply blk_normal | apply blk_ret | apply blk_here | apply w_block | apply w_skip | apply w_exit | apply w_label)) | ((with_reducible first | apply wz (tok Tryz.prog) | apply wr_z (tok Tryz.prog)); exact zZ; decide) | ((with_reducible first | apply w_ap | apply wr_ap); (focus (first | (intro _ ho _ hr _; (with_reducible apply ap_new (tok Tryz.prog) ho (hr := hr)); exact zT; exact zU; exact zT; exact zT; exact zU; exact zA; exact zV; exact zK; exact zM; exact zK; exact zK; decide) | (intro _ ho _ hr _; (with_reducible apply ap_own (tok Tryz.prog) ho (hr := hr)); exact zT; exact zU; exact zT; exact zT; exact zU; exact zV; exact zV; exact zH; exact zKo; exact zM; (focus (first | rfl | assumption)); exact zKo; exact zKo; decide))); decide) | ((with_reducible first | apply wp | apply wr_p); (focus (first | ((with_reducible first | apply p_slv (tok Tryz.prog)); exact zT; exact zU; exact zT; exact zV; exact zN; exact zN; (focus (first | exact zU | exact zB)); (focus (first | exact zU | exact zB)); (focus (first | exact zU | assumption))) | ((with_reducible first | apply p_slo (tok Tryz.prog)); exact zT; exact zU; exact zT; exact zV; exact zN; exact zN; (focus (first | exact zU | exact zB)); (focus (first | exact zU | exact zB)); (focus (first | exact zU | assumption))) | ((with_reducible first | apply p_nil (tok Tryz.prog) | apply p_nnil (tok Tryz.prog)); exact zT; exact zV; exact zU) | ((with_reducible first | apply p_bs0 (tok Tryz.prog)); exact zT; exact zU; exact zT) | ((with_reducible first | apply p_ap0 (tok Tryz.prog)); exact zT; exact zU; exact zT; exact zT; exact zU; exact zA; exact zV; (focus (first | exact Or.inl rfl | exact Or.inr rfl))) | ((with_reducible first | apply p_bytes (tok Tryz.prog)); exact zT; exact zU; exact zT; exact zU; exact zT; exact zU; exact zV))); decide) | ((with_reducible first | apply w_iff'); exact zV; exact zU) | ((with_reducible apply w_ret); (repeat (with_reducible first | apply go_ret | apply blk_ret)); (with_reducible first | apply donef_ret (tok Tryz.prog) | apply doneA_ret (tok Tryz.prog)); exact zT; exact zD) | fail
  all_goals try clear tE
  exact ⟨0, by rw [hbl]; rfl, rfl⟩
/-- The copy is told by the memory ahead of it. -/
theorem ac42 (l : List UInt8) (hll : l.length ≤ 1000000) (H : Heap) (n : Nat) : AC Tryz.prog 42 [.view (byteRows l)] H n (fun r H' n' => r = .ret (ownR n 1 (byteRows l)) ∧ H' = clH H n 5 (byteRows l) ∧ n' = clN n (byteRows l)) := by
  cases l with
  | nil =>
    refine (ac_pure pf42_nil H n).mono ?_
    rintro r H' n' ⟨rfl, rfl, x, rfl, _, rfl⟩
    exact ⟨rfl, rfl, rfl⟩
  | cons x l =>
    simp only [List.length_cons] at hll
    refine (ac_own1 (F := fun len cap sz cs e => len = (byteRows (x :: l)).length ∧ cap = none ∧ sz = 1 ∧ cs = (byteRows (x :: l)).flatten ∧ e = 5) (args_1 (byteRows_pur (x :: l))) ((ac42_some x l (by omega)).mono ?_) H n).mono ?_
    · rintro r H n ⟨id, hr, hH⟩
      exact ⟨id, _, _, _, _, _, hr, hH, flat_pur (byteRows_pur (x :: l)), rfl, rfl, rfl, rfl, rfl⟩
    · rintro r H n ⟨len, cap, sz, cs, e, h1, h2, h3, rfl, rfl, rfl, rfl, rfl⟩
      exact ⟨h1, h2, h3⟩
theorem pf76_nil : PF Tryz.prog 76 [.view (intRows [])] (fun r => r = .empty) := by
  refine pf_of_wf0 Tryz.func76 (c := _) rfl rfl (Nat.le_of_ble_eq_true rfl) (args_1 (intRows_pur [])) ?_
  rw [show Tryz.f76.ntmps = 8 from rfl]
  have tE := And.intro (@upd_upd AV) <| And.intro (@upd_upd (Option Blk)) <| And.intro ty3 <| And.intro ty72 <| Tryz.results76; repeat' first | ((with_reducible first | apply w_seq | apply w_region | apply wl_nil | apply wr_nil | apply wr_nilA | apply wr_nilE | apply go_normal | apply go_ret | apply go_exit | apply blk_normal | apply blk_ret | apply blk_here | apply w_block | apply w_skip | apply w_exit | apply w_label)) | ((with_reducible first | apply wz (tok Tryz.prog) | apply wr_z (tok Tryz.prog)); exact zZ; decide) | ((with_reducible first | apply wp | apply wr_p); (focus (first | ((with_reducible first | apply p_slv (tok Tryz.prog)); exact zT; exact zU; exact zT; exact zV; exact zN; exact zN; (focus (first | exact zU | exact zB)); (focus (first | exact zU | exact zB)); (focus (first | exact zU | assumption))) | ((with_reducible first | apply p_slo (tok Tryz.prog)); exact zT; exact zU; exact zT; exact zV; exact zN; exact zN; (focus (first | exact zU | exact zB)); (focus (first | exact zU | exact zB)); (focus (first | exact zU | assumption))) | ((with_reducible first | apply p_nil (tok Tryz.prog) | apply p_nnil (tok Tryz.prog)); exact zT; exact zV; exact zU) | ((with_reducible first | apply p_bs0 (tok Tryz.prog)); exact zT; exact zU; exact zT) | ((with_reducible first | apply p_ap0 (tok Tryz.prog)); exact zT; exact zU; exact zT; exact zT; exact zU; exact zA; exact zV; (focus (first | exact Or.inl rfl | exact Or.inr rfl))) | ((with_reducible first | apply p_bytes (tok Tryz.prog)); exact zT; exact zU; exact zT; exact zU; exact zT; exact zU; exact zV))); decide) | ((with_reducible first | apply wl_nilx (tok Tryz.prog)); (focus (first | exact Or.inl rfl | exact Or.inr rfl)); exact zT; exact zU; exact zV; (focus (first | exact Or.inl rfl | exact Or.inr ⟨_, rfl⟩)); decide; intro b; cases b) | ((with_reducible first | apply w_ift'); exact zV; exact zU) | ((with_reducible first | apply w_iff'); exact zV; exact zU) | ((with_reducible apply w_ret); (repeat (with_reducible first | apply go_ret | apply blk_ret)); (with_reducible first | apply donef_ret (tok Tryz.prog) | apply doneA_ret (tok Tryz.prog)); exact zT; exact zD) | fail
  all_goals try clear tE
  · exact .pur .empty
  · exact .empty
  · rfl
  · exact .pur .empty
  · exact .empty
  · rfl
theorem ac76_some (x : Int) (l : List Int) (hll : l.length ≤ 1000000) : AC Tryz.prog 76 [.view (intRows (x :: l))] (hl []) 0 (fun r H _ => ∃ id, r = .ret (.slice id 0 (intRows (x :: l)).length none 1) ∧ H id = some (.cells (intRows (x :: l)).flatten 3)) := by
  refine ac_of_w Tryz.func76 (c := _) rfl (Nat.le_of_ble_eq_true rfl) ?_
  rw [show Tryz.f76.ntmps = 8 from rfl]
  have hr := intRows_row (x :: l)
  have hbl := intRows_len (x :: l)
  rw [List.length_cons] at hbl
  have tE := And.intro (@upd_upd AV) <| And.intro (@upd_upd (Option Blk)) <| And.intro hbl <| And.intro ty3 <| And.intro ty72 <| Tryz.results76; repeat' first | ((with_reducible first | apply w_seq | apply w_region | apply wl_nil | apply wr_nil | apply wr_nilA | apply wr_nilE | apply go_normal | apply go_ret | apply go_exit | apply blk_normal | apply blk_ret | apply blk_here | apply w_block | apply w_skip | apply w_exit | apply w_label)) | ((with_reducible first | apply wz (tok Tryz.prog) | apply wr_z (tok Tryz.prog)); exact zZ; decide) | ((with_reducible first | apply w_ap | apply wr_ap); (focus (first | (intro _ ho _ hr _; (with_reducible apply ap_new (tok Tryz.prog) ho (hr := hr)); exact zT; exact zU; exact zT; exact zT; exact zU; exact zA; exact zV; exact zK; exact zM; exact zK; exact zK; decide) | (intro _ ho _ hr _; (with_reducible apply ap_own (tok Tryz.prog) ho (hr := hr)); exact zT; exact zU; exact zT; exact zT; exact zU; exact zV; exact zV; exact zH; exact zKo; exact zM; (focus (first | rfl | assumption)); exact zKo; exact zKo; decide))); decide) | ((with_reducible first | apply wp | apply wr_p); (focus (first | ((with_reducible first | apply p_slv (tok Tryz.prog)); exact zT; exact zU; exact zT; exact zV; exact zN; exact zN; (focus (first | exact zU | exact zB)); (focus (first | exact zU | exact zB)); (focus (first | exact zU | assumption))) | ((with_reducible first | apply p_slo (tok Tryz.prog)); exact zT; exact zU; exact zT; exact zV; exact zN; exact zN; (focus (first | exact zU | exact zB)); (focus (first | exact zU | exact zB)); (focus (first | exact zU | assumption))) | ((with_reducible first | apply p_nil (tok Tryz.prog) | apply p_nnil (tok Tryz.prog)); exact zT; exact zV; exact zU) | ((with_reducible first | apply p_bs0 (tok Tryz.prog)); exact zT; exact zU; exact zT) | ((with_reducible first | apply p_ap0 (tok Tryz.prog)); exact zT; exact zU; exact zT; exact zT; exact zU; exact zA; exact zV; (focus (first | exact Or.inl rfl | exact Or.inr rfl))) | ((with_reducible first | apply p_bytes (tok Tryz.prog)); exact zT; exact zU; exact zT; exact zU; exact zT; exact zU; exact zV))); decide) | ((with_reducible first | apply w_iff'); exact zV; exact zU) | ((with_reducible apply w_ret); (repeat (with_reducible first | apply go_ret | apply blk_ret)); (with_reducible first | apply donef_ret (tok Tryz.prog) | apply doneA_ret (tok Tryz.prog)); exact zT; exact zD) | fail
  all_goals try clear tE
  exact ⟨0, by rw [hbl]; rfl, rfl⟩
/-- The copy is told by the memory ahead of it. -/
theorem ac76 (l : List Int) (hll : l.length ≤ 1000000) (H : Heap) (n : Nat) : AC Tryz.prog 76 [.view (intRows l)] H n (fun r H' n' => r = .ret (ownR n 1 (intRows l)) ∧ H' = clH H n 3 (intRows l) ∧ n' = clN n (intRows l)) := by
  cases l with
  | nil =>
    refine (ac_pure pf76_nil H n).mono ?_
    rintro r H' n' ⟨rfl, rfl, x, rfl, _, rfl⟩
    exact ⟨rfl, rfl, rfl⟩
  | cons x l =>
    simp only [List.length_cons] at hll
    refine (ac_own1 (F := fun len cap sz cs e => len = (intRows (x :: l)).length ∧ cap = none ∧ sz = 1 ∧ cs = (intRows (x :: l)).flatten ∧ e = 3) (args_1 (intRows_pur (x :: l))) ((ac76_some x l (by omega)).mono ?_) H n).mono ?_
    · rintro r H n ⟨id, hr, hH⟩
      exact ⟨id, _, _, _, _, _, hr, hH, flat_pur (intRows_pur (x :: l)), rfl, rfl, rfl, rfl, rfl⟩
    · rintro r H n ⟨len, cap, sz, cs, e, h1, h2, h3, rfl, rfl, rfl, rfl, rfl⟩
      exact ⟨h1, h2, h3⟩
theorem pf75_nil : PF Tryz.prog 75 [.view (frRows [])] (fun r => r = .empty) := by
  refine pf_of_wf0 Tryz.func75 (c := _) rfl rfl (Nat.le_of_ble_eq_true rfl) (args_1 (frRows_pur [])) ?_
  rw [show Tryz.f75.ntmps = 8 from rfl]
  have tE := And.intro (@upd_upd AV) <| And.intro (@upd_upd (Option Blk)) <| And.intro ty3 <| And.intro ty4 <| And.intro ty5 <| And.intro ty24 <| And.intro ty28 <| And.intro ty72 <| And.intro ty74 <| Tryz.results75; repeat' first | ((with_reducible first | apply w_seq | apply w_region | apply wl_nil | apply wr_nil | apply wr_nilA | apply wr_nilE | apply go_normal | apply go_ret | apply go_exit | apply blk_normal | apply blk_ret | apply blk_here | apply w_block | apply w_skip | apply w_exit | apply w_label)) | ((with_reducible first | apply wz (tok Tryz.prog) | apply wr_z (tok Tryz.prog)); exact zZ; decide) | ((with_reducible first | apply wp | apply wr_p); (focus (first | ((with_reducible first | apply p_slv (tok Tryz.prog)); exact zT; exact zU; exact zT; exact zV; exact zN; exact zN; (focus (first | exact zU | exact zB)); (focus (first | exact zU | exact zB)); (focus (first | exact zU | assumption))) | ((with_reducible first | apply p_slo (tok Tryz.prog)); exact zT; exact zU; exact zT; exact zV; exact zN; exact zN; (focus (first | exact zU | exact zB)); (focus (first | exact zU | exact zB)); (focus (first | exact zU | assumption))) | ((with_reducible first | apply p_nil (tok Tryz.prog) | apply p_nnil (tok Tryz.prog)); exact zT; exact zV; exact zU) | ((with_reducible first | apply p_bs0 (tok Tryz.prog)); exact zT; exact zU; exact zT) | ((with_reducible first | apply p_ap0 (tok Tryz.prog)); exact zT; exact zU; exact zT; exact zT; exact zU; exact zA; exact zV; (focus (first | exact Or.inl rfl | exact Or.inr rfl))) | ((with_reducible first | apply p_bytes (tok Tryz.prog)); exact zT; exact zU; exact zT; exact zU; exact zT; exact zU; exact zV))); decide) | ((with_reducible first | apply wl_nilx (tok Tryz.prog)); (focus (first | exact Or.inl rfl | exact Or.inr rfl)); exact zT; exact zU; exact zV; (focus (first | exact Or.inl rfl | exact Or.inr ⟨_, rfl⟩)); decide; intro b; cases b) | ((with_reducible first | apply w_ift'); exact zV; exact zU) | ((with_reducible first | apply w_iff'); exact zV; exact zU) | ((with_reducible apply w_ret); (repeat (with_reducible first | apply go_ret | apply blk_ret)); (with_reducible first | apply donef_ret (tok Tryz.prog) | apply doneA_ret (tok Tryz.prog)); exact zT; exact zD) | fail
  all_goals try clear tE
  · exact .pur .empty
  · exact .empty
  · rfl
  · exact .pur .empty
  · exact .empty
  · rfl
theorem ac75_some (x : Fr) (l : List Fr) (hll : l.length ≤ 1000000) : AC Tryz.prog 75 [.view (frRows (x :: l))] (hl []) 0 (fun r H _ => ∃ id, r = .ret (.slice id 0 (frRows (x :: l)).length none 6) ∧ H id = some (.cells (frRows (x :: l)).flatten 74)) := by
  refine ac_of_w Tryz.func75 (c := _) rfl (Nat.le_of_ble_eq_true rfl) ?_
  rw [show Tryz.f75.ntmps = 8 from rfl]
  have hr := frRows_row (x :: l)
  have hbl := frRows_len (x :: l)
  rw [List.length_cons] at hbl
  have tE := And.intro (@upd_upd AV) <| And.intro (@upd_upd (Option Blk)) <| And.intro hbl <| And.intro ty3 <| And.intro ty4 <| And.intro ty5 <| And.intro ty24 <| And.intro ty28 <| And.intro ty72 <| And.intro ty74 <| Tryz.results75; repeat' first | ((with_reducible first | apply w_seq | apply w_region | apply wl_nil | apply wr_nil | apply wr_nilA | apply wr_nilE | apply go_normal | apply go_ret | apply go_exit | apply blk_normal | apply blk_ret | apply blk_here | apply w_block | apply w_skip | apply w_exit | apply w_label)) | ((with_reducible first | apply wz (tok Tryz.prog) | apply wr_z (tok Tryz.prog)); exact zZ; decide) | ((with_reducible first | apply w_ap | apply wr_ap); (focus (first | (intro _ ho _ hr _; (with_reducible apply ap_new (tok Tryz.prog) ho (hr := hr)); exact zT; exact zU; exact zT; exact zT; exact zU; exact zA; exact zV; exact zK; exact zM; exact zK; exact zK; decide) | (intro _ ho _ hr _; (with_reducible apply ap_own (tok Tryz.prog) ho (hr := hr)); exact zT; exact zU; exact zT; exact zT; exact zU; exact zV; exact zV; exact zH; exact zKo; exact zM; (focus (first | rfl | assumption)); exact zKo; exact zKo; decide))); decide) | ((with_reducible first | apply wp | apply wr_p); (focus (first | ((with_reducible first | apply p_slv (tok Tryz.prog)); exact zT; exact zU; exact zT; exact zV; exact zN; exact zN; (focus (first | exact zU | exact zB)); (focus (first | exact zU | exact zB)); (focus (first | exact zU | assumption))) | ((with_reducible first | apply p_slo (tok Tryz.prog)); exact zT; exact zU; exact zT; exact zV; exact zN; exact zN; (focus (first | exact zU | exact zB)); (focus (first | exact zU | exact zB)); (focus (first | exact zU | assumption))) | ((with_reducible first | apply p_nil (tok Tryz.prog) | apply p_nnil (tok Tryz.prog)); exact zT; exact zV; exact zU) | ((with_reducible first | apply p_bs0 (tok Tryz.prog)); exact zT; exact zU; exact zT) | ((with_reducible first | apply p_ap0 (tok Tryz.prog)); exact zT; exact zU; exact zT; exact zT; exact zU; exact zA; exact zV; (focus (first | exact Or.inl rfl | exact Or.inr rfl))) | ((with_reducible first | apply p_bytes (tok Tryz.prog)); exact zT; exact zU; exact zT; exact zU; exact zT; exact zU; exact zV))); decide) | ((with_reducible first | apply w_iff'); exact zV; exact zU) | ((with_reducible apply w_ret); (repeat (with_reducible first | apply go_ret | apply blk_ret)); (with_reducible first | apply donef_ret (tok Tryz.prog) | apply doneA_ret (tok Tryz.prog)); exact zT; exact zD) | fail
  all_goals try clear tE
  exact ⟨0, by rw [hbl]; rfl, rfl⟩
/-- The copy is told by the memory ahead of it. -/
theorem ac75 (l : List Fr) (hll : l.length ≤ 1000000) (H : Heap) (n : Nat) : AC Tryz.prog 75 [.view (frRows l)] H n (fun r H' n' => r = .ret (ownR n 6 (frRows l)) ∧ H' = clH H n 74 (frRows l) ∧ n' = clN n (frRows l)) := by
  cases l with
  | nil =>
    refine (ac_pure pf75_nil H n).mono ?_
    rintro r H' n' ⟨rfl, rfl, x, rfl, _, rfl⟩
    exact ⟨rfl, rfl, rfl⟩
  | cons x l =>
    simp only [List.length_cons] at hll
    refine (ac_own1 (F := fun len cap sz cs e => len = (frRows (x :: l)).length ∧ cap = none ∧ sz = 6 ∧ cs = (frRows (x :: l)).flatten ∧ e = 74) (args_1 (frRows_pur (x :: l))) ((ac75_some x l (by omega)).mono ?_) H n).mono ?_
    · rintro r H n ⟨id, hr, hH⟩
      exact ⟨id, _, _, _, _, _, hr, hH, flat_pur (frRows_pur (x :: l)), rfl, rfl, rfl, rfl, rfl⟩
    · rintro r H n ⟨len, cap, sz, cs, e, h1, h2, h3, rfl, rfl, rfl, rfl, rfl⟩
      exact ⟨h1, h2, h3⟩
end Go.Proofs.YtlmighkbeacjnaaGreatDoor


open Go Go.Lg
set_option linter.unusedSimpArgs false
set_option linter.unusedVariables false
set_option maxHeartbeats 4000000
set_option maxRecDepth 20000
namespace Go.Proofs.YtlmighkbeacjnaaGreatDoor
/-- A frame in own memory: where its bytes and its pins are. -/
def oRow (x : Fr) (ab : AV × AV) : List AV := [.int .u8 x.k, .int .i64 x.p, ab.1, ab.2, .bool x.rf, .bool x.dt]
def oRows (l : List Fr) (m : List (AV × AV)) : List (List AV) := List.zipWith oRow l m
def viewsF (l : List Fr) : List (AV × AV) := l.map fun x => (.view (byteRows x.d), .view (intRows x.pins))
theorem oRows_views (l : List Fr) : oRows l (viewsF l) = frRows l := by
  induction l with
  | nil => rfl
  | cons x l ih =>
    show oRow x _ :: oRows l (viewsF l) = Fr.cells x :: frRows l
    rw [ih]; rfl
theorem oRows_row (l : List Fr) (m : List (AV × AV)) : ∀ r, r ∈ oRows l m → r.length = 6 := by
  intro r hr
  obtain ⟨i, hi, rfl⟩ := List.getElem_of_mem hr
  simp [oRows, oRow]
theorem oRows_len {l : List Fr} {m : List (AV × AV)} (h : m.length = l.length) : (oRows l m).length = l.length := by simp [oRows, h]
theorem oFlat_len {l : List Fr} {m : List (AV × AV)} (h : m.length = l.length) : (oRows l m).flatten.length = l.length * 6 := by
  rw [flat_len (oRows_row l m), oRows_len h]
theorem oRows_at {l : List Fr} {m : List (AV × AV)} {i : Nat} {u : Fr} {ab : AV × AV} (h : l[i]? = some u) (h' : m[i]? = some ab) : (oRows l m)[i]? = some (oRow u ab) := by
  rw [oRows, List.getElem?_zipWith, h, h']
theorem oFlat_at {l : List Fr} {m : List (AV × AV)} {i : Nat} {u : Fr} {ab : AV × AV} (h : l[i]? = some u) (h' : m[i]? = some ab) {j : Nat} (hj : j < 6) : (oRows l m).flatten[i * 6 + j]? = (oRow u ab)[j]? :=
  flat_at (oRows_row l m) (oRows_at h h') hj
theorem oRows_set {l : List Fr} {m : List (AV × AV)} {i : Nat} {u : Fr} {ab : AV × AV} (h : l[i]? = some u) : (oRows l m).set i (oRow u ab) = oRows l (m.set i ab) := by
  refine List.ext_getElem? fun j => ?_
  rw [List.getElem?_set, oRows, oRows, List.getElem?_zipWith, List.getElem?_zipWith, List.getElem?_set]
  by_cases e : i = j
  · subst e
    simp only [if_true, h, List.length_zipWith]
    have hl := (List.getElem?_eq_some_iff.1 h).1
    by_cases hm : i < m.length
    · rw [if_pos (by omega), if_pos hm]
    · rw [if_neg (by omega), if_neg hm]
  · simp only [if_neg e]
theorem oFlat_set2 {l : List Fr} {m : List (AV × AV)} {i : Nat} {u : Fr} {ab : AV × AV} (h : l[i]? = some u) (h' : m[i]? = some ab) (a b : AV) : ((oRows l m).flatten.set (i * 6 + 2) a).set (i * 6 + 3) b = (oRows l (m.set i (a, b))).flatten := by
  rw [flat_set (oRows_row l m) a (oRows_at h h') (by decide), show (oRow u ab).set 2 a = oRow u (a, ab.2) from rfl, oRows_set h]
  have h2 : (m.set i (a, ab.2))[i]? = some (a, ab.2) := List.getElem?_set_self (List.getElem?_eq_some_iff.1 h').1
  rw [flat_set (oRows_row l _) b (oRows_at h h2) (by decide), show (oRow u (a, ab.2)).set 3 b = oRow u (a, b) from rfl, oRows_set h, List.set_set]
theorem oFlat_set3 {l : List Fr} {m : List (AV × AV)} {i : Nat} {u : Fr} {ab : AV × AV} (h : l[i]? = some u) (h' : m[i]? = some ab) (a b : AV) : ((oRows l m).flatten.set (i * 6 + 3) b).set (i * 6 + 2) a = (oRows l (m.set i (a, b))).flatten := by
  rw [List.set_comm _ _ (by omega), oFlat_set2 h h']
/-- The bytes and pins of frames are own memory, from an id on. -/
def OwnAB (H : Heap) (S : Nat → Prop) (u : Fr) (ab : AV × AV) : Prop := Own H S ab.1 (.view (byteRows u.d)) ∧ Own H S ab.2 (.view (intRows u.pins))
theorem OwnAB.mono {H H' : Heap} {S S' : Nat → Prop} (hS : ∀ id, S id → S' id) (hs : ∀ id b, S id → H id = some b → H' id = some b) {u : Fr} {ab : AV × AV} (h : OwnAB H S u ab) : OwnAB H' S' u ab := ⟨h.1.mono hS hs, h.2.mono hS hs⟩
def OwnABs (H : Heap) (S : Nat → Prop) (l : List Fr) (m : List (AV × AV)) : Prop := m.length = l.length ∧ ∀ (j : Nat) u ab, l[j]? = some u → m[j]? = some ab → OwnAB H S u ab
/-- As much, no two of them in one block. -/
def OwnABz (H : Heap) (S : Nat → Prop) (l : List Fr) (m : List (AV × AV)) : Prop := m.length = l.length ∧ ∃ g : Nat → Nat, ∀ (j : Nat) u ab, l[j]? = some u → m[j]? = some ab → Own H (fun x => S x ∧ g x = 2 * j) ab.1 (.view (byteRows u.d)) ∧ Own H (fun x => S x ∧ g x = 2 * j + 1) ab.2 (.view (intRows u.pins))
theorem OwnABz.flat {H : Heap} {S : Nat → Prop} {l : List Fr} {m : List (AV × AV)} (h : OwnABz H S l m) : OwnABs H S l m := by
  obtain ⟨h1, g, h2⟩ := h
  exact ⟨h1, fun j u ab hu hab => ⟨(h2 j u ab hu hab).1.mono (fun _ h => h.1) (fun _ _ _ h => h), (h2 j u ab hu hab).2.mono (fun _ h => h.1) (fun _ _ _ h => h)⟩⟩
def OwnFz (H : Heap) (S : Nat → Prop) (f : Fs) (a : AV) : Prop := (f.l = [] ∧ a = .empty) ∨ (0 < f.l.length ∧ ∃ id m, S id ∧ a = .slice id 0 f.l.length none 6 ∧ H id = some (.cells (oRows f.l m).flatten 74) ∧ OwnABz H (fun j => S j ∧ j ≠ id) f.l m)
/-- Frames in own memory. -/
def OwnF (H : Heap) (S : Nat → Prop) (f : Fs) (a : AV) : Prop := (f.l = [] ∧ a = .empty) ∨ (0 < f.l.length ∧ ∃ id m, S id ∧ a = .slice id 0 f.l.length none 6 ∧ H id = some (.cells (oRows f.l m).flatten 74) ∧ OwnABs H (fun j => S j ∧ j ≠ id) f.l m)
theorem ac75p (l : List Fr) (h0 : 0 < l.length) (hl : l.length ≤ 1000000) (H : Heap) (n : Nat) : AC Tryz.prog 75 [.view (frRows l)] H n (fun r H' n' => r = .ret (.slice n 0 l.length none 6) ∧ H' = upd H n (some (.cells (frRows l).flatten 74)) ∧ n' = n + 1) := by
  refine (ac75 l hl H n).mono ?_
  cases l with
  | nil => cases h0
  | cons x l =>
    rintro r H' n' ⟨rfl, rfl, rfl⟩
    exact ⟨by show AR.ret (.slice n 0 ((frRows l).length + 1) none 6) = _; rw [frRows_len]; rfl, rfl, rfl⟩
theorem clH_b (H : Heap) (n : Nat) (e : TypeId) (rows : List (List AV)) (id : Nat) (h : (id == n) = false) : clH H n e rows id = H id := clH_old (by simpa using h)
/-- What Twin's loop holds. -/
structure TwI (f : Fs) (i : Nat) (m : List (AV × AV)) (H : Heap) (k : Nat) : Prop where
  le : i ≤ f.l.length
  len : m.length = f.l.length
  h0 : H 0 = some (.cells [.slice 2 0 f.l.length none 6, .int .i64 f.h] 26)
  h1 : H 1 = some (.cells [.empty, .int .i64 (Int.ofNat 0)] 26)
  h2 : H 2 = some (.cells (oRows f.l m).flatten 74)
  k3 : 3 ≤ k
  own : ∃ g : Nat → Nat, ∀ (j : Nat) u ab, f.l[j]? = some u → m[j]? = some ab → j < i → Own H (fun x => 3 ≤ x ∧ g x = 2 * j) ab.1 (.view (byteRows u.d)) ∧ Own H (fun x => 3 ≤ x ∧ g x = 2 * j + 1) ab.2 (.view (intRows u.pins))
  pur : ∀ (j : Nat) u ab, f.l[j]? = some u → m[j]? = some ab → i ≤ j → ab = (.view (byteRows u.d), .view (intRows u.pins))
  top : ∀ id, k ≤ id → H id = none
theorem tw_step {f : Fs} {i : Nat} {m : List (AV × AV)} {H : Heap} {k : Nat} {u : Fr} (hI : TwI f i m H k) (hu : f.l[i]? = some u) :
    TwI f (i + 1) (m.set i (ownR k 1 (byteRows u.d), ownR (clN k (byteRows u.d)) 1 (intRows u.pins))) (upd (clH (clH H k 5 (byteRows u.d)) (clN k (byteRows u.d)) 3 (intRows u.pins)) 2 (some (.cells (oRows f.l (m.set i (ownR k 1 (byteRows u.d), ownR (clN k (byteRows u.d)) 1 (intRows u.pins)))).flatten 74))) (clN (clN k (byteRows u.d)) (intRows u.pins)) := by
  obtain ⟨hi, hm, e0, e1, e2, hk, hown, hpur, htop⟩ := hI
  have hil := (List.getElem?_eq_some_iff.1 hu).1
  have c1 := clN_le k (byteRows u.d)
  have c2 := clN_le (clN k (byteRows u.d)) (intRows u.pins)
  have old : ∀ id, id < k → clH (clH H k 5 (byteRows u.d)) (clN k (byteRows u.d)) 3 (intRows u.pins) id = H id := fun id h => by rw [clH_old (by omega), clH_old (by omega)]
  obtain ⟨g, hown⟩ := hown
  have keep : ∀ g' : Nat → Nat, (∀ x, x < k → g' x = g x) → ∀ q id b, (3 ≤ id ∧ g id = q) → H id = some b → (3 ≤ id ∧ g' id = q) ∧ upd (clH (clH H k 5 (byteRows u.d)) (clN k (byteRows u.d)) 3 (intRows u.pins)) 2 (some (.cells (oRows f.l (m.set i (ownR k 1 (byteRows u.d), ownR (clN k (byteRows u.d)) 1 (intRows u.pins)))).flatten 74)) id = some b := fun g' hg q id b h3 hb => by
    have : id < k := by
      rcases Nat.lt_or_ge id k with h | h
      · exact h
      · rw [htop id h] at hb; cases hb
    exact ⟨⟨h3.1, by rw [hg id this]; exact h3.2⟩, by rw [upd_ne _ _ (by omega), old id this]; exact hb⟩
  refine ⟨by omega, by rw [List.length_set]; exact hm, ?_, ?_, upd_same _ _ _, by omega, ⟨fun x => if x < k then g x else if x < clN k (byteRows u.d) then 2 * i else 2 * i + 1, fun j v ab hv hab hj => ?_⟩, fun j v ab hv hab hj => ?_, fun id hid => ?_⟩
  · rw [upd_ne _ _ (by decide), old 0 (by omega)]; exact e0
  · rw [upd_ne _ _ (by decide), old 1 (by omega)]; exact e1
  · rw [List.getElem?_set] at hab
    split at hab
    · rename_i e
      subst e
      rw [hu] at hv; cases hv
      rw [if_pos (by omega)] at hab; cases hab
      refine ⟨?_, ?_⟩
      · refine (clH_own (H := H) (n := k) (S := fun x => 3 ≤ x ∧ (if x < k then g x else if x < clN k (byteRows u.d) then 2 * i else 2 * i + 1) = 2 * i) (e := 5) (sz := 1) (fun hp => ⟨hk, ?_⟩) (byteRows_row u.d) (byteRows_flat u.d)).mono (fun _ h => h) (fun id b h3 hb => ?_)
        · have : clN k (byteRows u.d) = k + 1 := by
            cases hd : byteRows u.d with
            | nil => rw [hd] at hp; cases hp
            | cons r rs => rfl
          rw [if_neg (by omega), if_pos (by omega)]
        · have h3 : 3 ≤ id := h3.1
          rw [upd_ne _ _ (by omega), clH_old]
          · exact hb
          · intro e
            subst e
            cases hd : byteRows u.d with
            | nil => rw [hd] at hb; have : H k = some b := hb; rw [htop k (Nat.le_refl _)] at this; cases this
            | cons r rs => rw [hd] at hb; have : upd H k _ (k + 1) = some b := hb; rw [upd_ne _ _ (by omega), htop _ (by omega)] at this; cases this
      · refine (clH_own (H := clH H k 5 (byteRows u.d)) (n := clN k (byteRows u.d)) (S := fun x => 3 ≤ x ∧ (if x < k then g x else if x < clN k (byteRows u.d) then 2 * i else 2 * i + 1) = 2 * i + 1) (e := 3) (sz := 1) (fun _ => ⟨by omega, by rw [if_neg (by omega), if_neg (by omega)]⟩) (intRows_row u.pins) (intRows_flat u.pins)).mono (fun _ h => h) (fun id b h3 hb => ?_)
        have h3 : 3 ≤ id := h3.1
        rw [upd_ne _ _ (by omega)]; exact hb
    · have h := hown j v ab hv hab (by omega)
      have hg : ∀ x, x < k → (fun x => if x < k then g x else if x < clN k (byteRows u.d) then 2 * i else 2 * i + 1) x = g x := fun x hx => if_pos hx
      exact ⟨h.1.mv (keep _ hg (2 * j)), h.2.mv (keep _ hg (2 * j + 1))⟩
  · rw [List.getElem?_set_ne (by omega)] at hab
    exact hpur j v ab hv hab (by omega)
  · rw [upd_ne _ _ (by omega)]
    have h1 : clH H k 5 (byteRows u.d) id = none := by
      cases hd : byteRows u.d with
      | nil => exact htop id (by omega)
      | cons r rs =>
        rw [hd] at c1 c2 hid
        have : k + 1 ≤ id := by have := clN_le (clN k (r :: rs)) (intRows u.pins); show clN k (r :: rs) ≤ id; omega
        show upd H k _ id = none
        rw [upd_ne _ _ (by omega)]; exact htop id (by omega)
    cases hp : intRows u.pins with
    | nil => exact h1
    | cons r rs =>
      rw [hp] at hid
      have : clN k (byteRows u.d) + 1 ≤ id := hid
      show upd (clH H k 5 (byteRows u.d)) _ _ id = none
      rw [upd_ne _ _ (by omega)]; exact h1
theorem ac40_some (f : Fs) (h0 : 0 < f.l.length) (hl : f.l.length ≤ 1000000) (hd : ∀ x, x ∈ f.l → x.d.length ≤ 1000000 ∧ x.pins.length ≤ 1000000) : AC Tryz.prog 40 [.agg f.cells] (Lg.hl []) 0 (fun r H _ => ∃ x, r = .ret x ∧ ∃ a, x = .agg [a, .int .i64 f.h] ∧ OwnFz H (fun _ => True) f a) := by
  refine ac_of_w Tryz.func40 (c := _) rfl (Nat.le_of_ble_eq_true rfl) ?_
  rw [show Tryz.f40.ntmps = 37 from rfl]
  have tE := And.intro (@upd_upd AV) <| And.intro (@upd_upd (Option Blk)) <| And.intro Fs.cells.eq_1 <| And.intro ty3 <| And.intro ty4 <| And.intro ty5 <| And.intro ty24 <| And.intro ty26 <| And.intro ty28 <| And.intro ty72 <| And.intro ty74 <| Tryz.results40; repeat' first | ((with_reducible first | apply w_seq | apply w_region | apply wl_nil | apply wr_nil | apply wr_nilA | apply wr_nilE | apply go_normal | apply go_ret | apply go_exit | apply blk_normal | apply blk_ret | apply blk_here | apply w_block | apply w_skip | apply w_exit | apply w_label)) | ((with_reducible apply l_box (d := 1)); exact zV; exact zU; decide) | ((with_reducible first | apply wz (tok Tryz.prog) | apply wr_z (tok Tryz.prog)); exact zZ; decide) | ((with_reducible first | apply w_alloc (tok Tryz.prog)); exact zT; decide) | ((with_reducible first | apply w_store (tok Tryz.prog)); exact zV; exact zV; exact zS) | ((with_reducible first | apply wacall'); exact zV; exact zVs; exact zAs; (focus (first | exact ⟨_, Tryz.func75, rfl, rfl⟩)); (focus (with_unfolding_all first | exact ac75p f.l h0 hl _ _)); decide) | fail
  all_goals try clear tE
  refine w_loopP (S := Nat × List (AV × AV)) (fun s => [(1, .ptr 0 0), (2, .ptr 1 0), (11, .int .i64 (f.l.length : Int)), (12, .int .i64 (s.1 : Int))]) [] (fun s H k => TwI f s.1 s.2 H k) (fun s => f.l.length - s.1) (0, viewsF f.l) ?_ rfl ?_ ?_
  · (have tE := And.intro (@upd_upd AV) <| @upd_upd (Option Blk); simp only [fitsT, List.take_zero, List.length_nil, sp_cons, sp_nil, upd_b, Nat.reduceBEq, cond_true, cond_false, args0_zero, args0_succ, args0_nil, tE]; repeat' first | exact trivial | apply And.intro | exact Sub.refl _ | exact Sub.cap)
  · refine ⟨Nat.zero_le _, by simp [viewsF], rfl, rfl, by rw [oRows_views]; rfl, Nat.le_refl _, ⟨fun _ => 0, fun j u ab _ _ h => absurd h (Nat.not_lt_zero _)⟩, fun j u ab h h' _ => ?_, fun id hid => ?_⟩
    · simp [viewsF, h] at h'; exact h'.symm
    · match id, hid with
      | id + 3, _ => rfl
  · rintro ⟨i, m⟩ H k hI
    obtain ⟨hi, hm, e0, e1, e2, hk, hown, hpur, htop⟩ := hI
    simp only at hi hm e0 e1 e2 hk hown hpur htop
    have hw : IntKind.i64.wrap ((i : Int) + 1) = ((i + 1 : Nat) : Int) := by rw [wrap64 (by omega) (by omega)]; rfl
    have g0 : (0 ≤ (i : Int)) = True := by simp
    by_cases e : i < f.l.length
    · have g1 : ((i : Int) < (f.l.length : Int)) = True := by simp; omega
      obtain ⟨u, hu⟩ : ∃ u, f.l[i]? = some u := ⟨f.l[i], List.getElem?_eq_getElem e⟩
      obtain ⟨ab, hab⟩ : ∃ ab, m[i]? = some ab := ⟨m[i]'(by omega), List.getElem?_eq_getElem _⟩
      obtain rfl := hpur i u ab hu hab (Nat.le_refl _)
      have hfl := oFlat_len hm
      have a2 := oFlat_at hu hab (j := 2) (by decide)
      have a3 := oFlat_at hu hab (j := 3) (by decide)
      have a2 : (oRows f.l m).flatten[i * 6 + 2]? = some (.view (byteRows u.d)) := a2
      have a3 : (oRows f.l m).flatten[i * 6 + 3]? = some (.view (intRows u.pins)) := a3
      have w2 := drop_head a2
      have w3 := drop_head a3
      have w4 := fun y => drop_set a2 (j := i * 6 + 3) (by omega) y
      have w5 := fun y => drop_set a3 (j := i * 6 + 2) (by omega) y
      have b2 : (i * 6 + 2 + 1 ≤ (oRows f.l m).flatten.length) = True := by rw [hfl]; simp; omega
      have b3 : (i * 6 + 3 + 1 ≤ (oRows f.l m).flatten.length) = True := by rw [hfl]; simp; omega
      have hcb := @clH_b
      have q0 : ((0 : Nat) == k) = false := by rw [beq_eq_false_iff_ne]; omega
      have q2 : ((2 : Nat) == k) = false := by rw [beq_eq_false_iff_ne]; omega
      have p0 : ∀ r, ((0 : Nat) == clN k r) = false := fun r => by rw [beq_eq_false_iff_ne]; have := clN_le k r; omega
      have p2 : ∀ r, ((2 : Nat) == clN k r) = false := fun r => by rw [beq_eq_false_iff_ne]; have := clN_le k r; omega
      have hdu := hd u (List.mem_of_getElem? hu)
      have tE := And.intro (@upd_upd AV) <| And.intro (@upd_upd (Option Blk)) <| And.intro g1 <| And.intro g0 <| And.intro hw <| And.intro e0 <| And.intro e1 <| And.intro e2 <| And.intro w2 <| And.intro w3 <| And.intro w4 <| And.intro w5 <| And.intro b2 <| And.intro b3 <| And.intro hcb <| And.intro q0 <| And.intro q2 <| And.intro p0 <| And.intro p2 <| And.intro set_len <| And.intro ty3 <| And.intro ty4 <| And.intro ty5 <| And.intro ty24 <| And.intro ty26 <| And.intro ty28 <| And.intro ty72 <| And.intro ty74 <| Tryz.results40; repeat' first | ((with_reducible first | apply w_seq | apply w_region | apply wl_nil | apply wr_nil | apply wr_nilA | apply wr_nilE | apply go_normal | apply go_ret | apply go_exit | apply blk_normal | apply blk_ret | apply blk_here | apply w_block | apply w_skip | apply w_exit | apply w_label)) | ((with_reducible apply w_live (lvAt [[0], [1, 2], [1, 2], [1, 2, 11, 12], [1, 2, 11, 12], [1, 2, 3, 11, 12], [1, 2, 4, 11, 12], [1, 2, 11, 12], [1, 2]])); (focus (simp only [lvAt_zero, lvAt_succ]; rfl)); exact zLv) | ((with_reducible first | apply wz (tok Tryz.prog) | apply wr_z (tok Tryz.prog)); exact zZ; decide) | ((with_reducible first | apply m_calle); exact zU; exact zV; exact zVs; exact zAs; (focus (first | exact ⟨_, Tryz.func42, rfl, rfl⟩ | exact ⟨_, Tryz.func76, rfl, rfl⟩)); (focus (with_unfolding_all first | exact ac42 u.d hdu.1 _ _ | exact ac76 u.pins hdu.2 _ _)); decide) | ((with_reducible first | apply w_ift'); exact zV; exact zU) | ((with_reducible first | apply fm_nil | apply fm_cons)) | ((with_reducible apply m_next); exact zU) | ((with_reducible first | apply m_v (tok Tryz.prog)); exact zU; exact zZ; decide) | ((with_reducible first | apply m_x (tok Tryz.prog)); exact zU; (focus (decide +kernel)); exact zZ; decide) | ((with_reducible first | apply m_xo (tok Tryz.prog)); exact zU; exact zZ; decide) | ((with_reducible apply m_nilO); exact zU; (focus (simp only [List.reverse_cons, List.reverse_nil, List.nil_append, List.cons_append]; rfl)); (focus (simp only [OwedAll, Owed, Nat.reduceAdd]; (repeat' apply And.intro); all_goals first | exact trivial | (intro h; exact absurd h (by decide +kernel)) | (intro _; exact zW)))) | ((with_reducible first | apply m_chg0); exact zU; (focus ((with_reducible apply c_store (tok Tryz.prog)); exact zV; exact zV; (focus ((with_reducible apply hv1); exact zC1; exact zC2; exact zT; exact zU; exact zH; exact zTd; exact zU))))) | ((with_reducible apply w_drawN (id := 6) [6, 11, 14, 17] [([6, 11, 14, 17], [2, 3, 4, 5, 6, 7, 8, 9, 10, 11, 0, 12, 13, 14, 1, 15, 16, 17])] mixed); (focus (decide +kernel))) | fail
      all_goals try clear tE
      all_goals
        have hnew : TwI f (i + 1) (m.set i (ownR k 1 (byteRows u.d), ownR (clN k (byteRows u.d)) 1 (intRows u.pins))) (upd (clH (clH H k 5 (byteRows u.d)) (clN k (byteRows u.d)) 3 (intRows u.pins)) 2 (some (.cells (oRows f.l (m.set i (ownR k 1 (byteRows u.d), ownR (clN k (byteRows u.d)) 1 (intRows u.pins)))).flatten 74))) (clN (clN k (byteRows u.d)) (intRows u.pins)) := tw_step ⟨hi, hm, e0, e1, e2, hk, hown, hpur, htop⟩ hu
        refine ⟨(i + 1, m.set i (ownR k 1 (byteRows u.d), ownR (clN k (byteRows u.d)) 1 (intRows u.pins))), by simp only; omega, ?_, rfl, ?_⟩
        · first | (rw [← oFlat_set2 hu hab] at hnew; simpa only [upd_upd] using hnew) | (rw [← oFlat_set3 hu hab] at hnew; simpa only [upd_upd] using hnew)
        · (have tE := And.intro (@upd_upd AV) <| And.intro (@upd_upd (Option Blk)) <| hw; simp only [fitsT, List.take_zero, List.length_nil, sp_cons, sp_nil, upd_b, Nat.reduceBEq, cond_true, cond_false, args0_zero, args0_succ, args0_nil, tE]; repeat' first | exact trivial | apply And.intro | exact Sub.refl _ | exact Sub.cap)
    · have g1 : ((i : Int) < (f.l.length : Int)) = False := by simp; omega
      have tE := And.intro (@upd_upd AV) <| And.intro (@upd_upd (Option Blk)) <| And.intro g1 <| And.intro g0 <| And.intro hw <| And.intro e0 <| And.intro e1 <| And.intro e2 <| And.intro ty3 <| And.intro ty4 <| And.intro ty5 <| And.intro ty24 <| And.intro ty26 <| And.intro ty28 <| And.intro ty72 <| And.intro ty74 <| Tryz.results40; repeat' first | ((with_reducible first | apply w_seq | apply w_region | apply wl_nil | apply wr_nil | apply wr_nilA | apply wr_nilE | apply go_normal | apply go_ret | apply go_exit | apply blk_normal | apply blk_ret | apply blk_here | apply w_block | apply w_skip | apply w_exit | apply w_label)) | ((with_reducible first | apply wz (tok Tryz.prog) | apply wr_z (tok Tryz.prog)); exact zZ; decide) | ((with_reducible first | apply w_store (tok Tryz.prog)); exact zV; exact zV; exact zS) | ((with_reducible first | apply w_iff'); exact zV; exact zU) | ((with_reducible apply w_ret); (repeat (with_reducible first | apply go_ret | apply blk_ret)); (with_reducible first | apply donef_ret (tok Tryz.prog) | apply doneA_ret (tok Tryz.prog)); exact zT; exact zD) | fail
      all_goals try clear tE
      obtain ⟨g, hown⟩ := hown
      refine ⟨_, rfl, _, rfl, .inr ⟨h0, 2, m, trivial, rfl, ?_, hm, g, fun j v ab hv hab => ?_⟩⟩
      · rw [upd_ne _ _ (by decide)]; exact e2
      · have := (List.getElem?_eq_some_iff.1 hv).1
        have h := hown j v ab hv hab (by omega)
        have hmv : ∀ q id b, (3 ≤ id ∧ g id = q) → H id = some b → ((True ∧ id ≠ 2) ∧ g id = q) ∧ upd H 1 (some (.cells [.slice 2 0 f.l.length none 6, .int .i64 f.h] 26)) id = some b := fun q id b h hb => ⟨⟨⟨trivial, by omega⟩, h.2⟩, by rw [upd_ne _ _ (by omega)]; exact hb⟩
        exact ⟨h.1.mv (hmv _), h.2.mv (hmv _)⟩
theorem ac40_nil (f : Fs) (h0 : f.l = []) : AC Tryz.prog 40 [.agg f.cells] (Lg.hl []) 0 (fun r H _ => ∃ x, r = .ret x ∧ ∃ a, x = .agg [a, .int .i64 f.h] ∧ OwnFz H (fun _ => True) f a) := by
  refine ac_of_w Tryz.func40 (c := _) rfl (Nat.le_of_ble_eq_true rfl) ?_
  rw [show Tryz.f40.ntmps = 37 from rfl]
  have h73 := pf75_nil
  have el : frRows f.l = [] := by rw [h0]; rfl
  have el' : frRows [] = [] := rfl
  rw [el'] at h73
  have tE := And.intro (@upd_upd AV) <| And.intro (@upd_upd (Option Blk)) <| And.intro Fs.cells.eq_1 <| And.intro el <| And.intro ty3 <| And.intro ty4 <| And.intro ty5 <| And.intro ty24 <| And.intro ty26 <| And.intro ty28 <| And.intro ty72 <| And.intro ty74 <| Tryz.results40; repeat' first | ((with_reducible first | apply w_seq | apply w_region | apply wl_nil | apply wr_nil | apply wr_nilA | apply wr_nilE | apply go_normal | apply go_ret | apply go_exit | apply blk_normal | apply blk_ret | apply blk_here | apply w_block | apply w_skip | apply w_exit | apply w_label)) | ((with_reducible apply l_box (d := 1)); exact zV; exact zU; decide) | ((with_reducible first | apply wz (tok Tryz.prog) | apply wr_z (tok Tryz.prog)); exact zZ; decide) | ((with_reducible first | apply w_alloc (tok Tryz.prog)); exact zT; decide) | ((with_reducible first | apply w_store (tok Tryz.prog)); exact zV; exact zV; exact zS) | ((with_reducible first | apply wcall' | apply wr_call); exact zV; exact zVs; exact zAs; (focus (with_unfolding_all first | exact h73)); decide) | fail
  all_goals try clear tE
  refine w_once ?_
  have tE := And.intro (@upd_upd AV) <| And.intro (@upd_upd (Option Blk)) <| And.intro Fs.cells.eq_1 <| And.intro el <| And.intro ty3 <| And.intro ty4 <| And.intro ty5 <| And.intro ty24 <| And.intro ty26 <| And.intro ty28 <| And.intro ty72 <| And.intro ty74 <| Tryz.results40; repeat' first | ((with_reducible first | apply w_seq | apply w_region | apply wl_nil | apply wr_nil | apply wr_nilA | apply wr_nilE | apply go_normal | apply go_ret | apply go_exit | apply blk_normal | apply blk_ret | apply blk_here | apply w_block | apply w_skip | apply w_exit | apply w_label)) | ((with_reducible first | apply wz (tok Tryz.prog) | apply wr_z (tok Tryz.prog)); exact zZ; decide) | ((with_reducible first | apply w_store (tok Tryz.prog)); exact zV; exact zV; exact zS) | ((with_reducible first | apply w_iff'); exact zV; exact zU) | ((with_reducible apply w_ret); (repeat (with_reducible first | apply go_ret | apply blk_ret)); (with_reducible first | apply donef_ret (tok Tryz.prog) | apply doneA_ret (tok Tryz.prog)); exact zT; exact zD) | fail
  all_goals try clear tE
  exact ⟨_, rfl, _, rfl, .inl ⟨h0, rfl⟩⟩
def shP (n : Nat) (ab : AV × AV) : AV × AV := (sh n ab.1, sh n ab.2)
theorem oRows_sh (n : Nat) : ∀ (l : List Fr) (m : List (AV × AV)), shL n (oRows l m).flatten = (oRows l (m.map (shP n))).flatten
  | [], m => by simp [oRows, shL]
  | x :: l, [] => by simp [oRows, shL]
  | x :: l, ab :: m => by
    have ih := oRows_sh n l m
    rw [shL_map] at ih ⊢
    show List.map (sh n) (oRow x ab ++ (oRows l m).flatten) = oRow x (shP n ab) ++ (oRows l (m.map (shP n))).flatten
    rw [List.map_append, ih]
    simp [oRow, shP, sh]
theorem ownFz_sh {n : Nat} {S : Nat → Prop} {H : Heap} {f : Fs} {a : AV} (h : OwnFz H S f a) : OwnFz (shH n H) (shS n S) f (sh n a) := by
  rcases h with ⟨h1, rfl⟩ | ⟨h1, id, m, h2, rfl, h3, h4, g, h5⟩
  · exact .inl ⟨h1, by rw [sh]⟩
  · refine .inr ⟨h1, n + id, m.map (shP n), shS_at h2, by rw [sh], ?_, by rw [List.length_map]; exact h4, fun x => g (x - n), fun j u ab hu hab => ?_⟩
    · rw [shH_at h3, oRows_sh]
    · rw [List.getElem?_map] at hab
      cases hm : m[j]? with
      | none => rw [hm] at hab; cases hab
      | some x =>
        rw [hm] at hab; cases hab
        obtain ⟨g1, g2⟩ := h5 j u x hu hm
        have hS : ∀ q k, shS n (fun j => (S j ∧ j ≠ id) ∧ g j = q) k → (shS n S k ∧ k ≠ n + id) ∧ g (k - n) = q := fun q k h => ⟨⟨⟨h.1, h.2.1.1⟩, fun e => h.2.1.2 (by omega)⟩, h.2.2⟩
        exact ⟨(own_sh g1).mono (hS _) (fun _ _ _ h => h), (own_sh g2).mono (hS _) (fun _ _ _ h => h)⟩
theorem OwnFz.mono {H H' : Heap} {S S' : Nat → Prop} {f : Fs} {a : AV} (hS : ∀ id, S id → S' id) (hs : ∀ id b, S id → H id = some b → H' id = some b) (h : OwnFz H S f a) : OwnFz H' S' f a := by
  rcases h with ⟨h1, h2⟩ | ⟨h1, id, m, h2, h3, h4, h5, g, h6⟩
  · exact .inl ⟨h1, h2⟩
  · exact .inr ⟨h1, id, m, hS _ h2, h3, hs _ _ h2 h4, h5, g, fun j u ab hu hab => ⟨(h6 j u ab hu hab).1.mono (fun k h => ⟨⟨hS _ h.1.1, h.1.2⟩, h.2⟩) (fun i b hi hb => hs i b hi.1.1 hb), (h6 j u ab hu hab).2.mono (fun k h => ⟨⟨hS _ h.1.1, h.1.2⟩, h.2⟩) (fun i b hi hb => hs i b hi.1.1 hb)⟩⟩
theorem OwnFz.flat {H : Heap} {S : Nat → Prop} {f : Fs} {a : AV} (h : OwnFz H S f a) : OwnF H S f a := by
  rcases h with h | ⟨h1, id, m, h2, h3, h4, h5⟩
  · exact .inl h
  · exact .inr ⟨h1, id, m, h2, h3, h4, h5.flat⟩
theorem OwnF.mono {H H' : Heap} {S S' : Nat → Prop} {f : Fs} {a : AV} (hS : ∀ id, S id → S' id) (hs : ∀ id b, S id → H id = some b → H' id = some b) (h : OwnF H S f a) : OwnF H' S' f a := by
  rcases h with ⟨h1, h2⟩ | ⟨h1, id, m, h2, h3, h4, h5, h6⟩
  · exact .inl ⟨h1, h2⟩
  · exact .inr ⟨h1, id, m, hS _ h2, h3, hs _ _ h2 h4, h5, fun j u ab hu hab => (h6 j u ab hu hab).mono (fun k h => ⟨hS _ h.1, h.2⟩) (fun i b hi hb => hs i b hi.1 hb)⟩
theorem OwnABs.flat {H : Heap} {S : Nat → Prop} : ∀ {l : List Fr} {m : List (AV × AV)}, OwnABs H S l m → OwnL H S (oRows l m).flatten (frRows l).flatten
  | [], [], _ => .nil
  | [], _ :: _, h => by have := h.1; simp at this
  | _ :: _, [], h => by have := h.1; simp at this
  | x :: l, ab :: m, h => by
    have h1 := h.2 0 x ab rfl rfl
    have ih := OwnABs.flat (l := l) (m := m) (H := H) (S := S) ⟨by have := h.1; simpa using this, fun j u v hu hv => h.2 (j + 1) u v (by simpa using hu) (by simpa using hv)⟩
    show OwnL H S (oRow x ab ++ (oRows l m).flatten) (Fr.cells x ++ (frRows l).flatten)
    exact OwnL.append (.cons (.int _ _) (.cons (.int _ _) (.cons h1.1 (.cons h1.2 (.cons (.bool _) (.cons (.bool _) .nil)))))) ih
theorem OwnF.own {H : Heap} {S : Nat → Prop} {f : Fs} {a : AV} (h : OwnF H S f a) : Own H S (.agg [a, .int .i64 f.h]) (.agg f.cells) := by
  refine OwnL.agg (.cons ?_ (.cons (.int _ _) .nil))
  rcases h with ⟨h1, rfl⟩ | ⟨h1, id, m, h2, rfl, h3, h4⟩
  · rw [h1]; exact .nothing
  · exact own_rows h2 h3 (frRows_len f.l) (frRows_row f.l) (h4.flat.mono (fun _ h => h.1) (fun _ _ _ h => h))
theorem cal40 : Callable Tryz.prog 40 := ⟨_, Tryz.func40, rfl, rfl⟩
theorem ac40_0 (f : Fs) (hl : f.l.length ≤ 1000000) (hd : ∀ x, x ∈ f.l → x.d.length ≤ 1000000 ∧ x.pins.length ≤ 1000000) : AC Tryz.prog 40 [.agg f.cells] (Lg.hl []) 0 (fun r H _ => ∃ x, r = .ret x ∧ ∃ a, x = .agg [a, .int .i64 f.h] ∧ OwnFz H (fun _ => True) f a) := by
  rcases Nat.eq_zero_or_pos f.l.length with h | h
  · exact ac40_nil f (List.eq_nil_of_length_eq_zero h)
  · exact ac40_some f h hl hd
/-- Twin, from any memory. -/
theorem ac40z (f : Fs) (hl : f.l.length ≤ 1000000) (hd : ∀ x, x ∈ f.l → x.d.length ≤ 1000000 ∧ x.pins.length ≤ 1000000) (H : Heap) (n : Nat) : AC Tryz.prog 40 [.agg f.cells] H n (fun r H' n' => n ≤ n' ∧ (∀ id b, H id = some b → H' id = some b) ∧ (∀ id, n' ≤ id → H' id = none) ∧ ∃ a, r = .ret (.agg [a, .int .i64 f.h]) ∧ OwnFz H' (n ≤ ·) f a) := by
  refine (ac_any (R := fun H x _ => ∃ a, x = .agg [a, .int .i64 f.h] ∧ OwnFz H (fun _ => True) f a) (args_1 (fsa_pur f)) (ac40_0 f hl hd) H n).mono ?_
  rintro r H' n' ⟨h1, h2, h3, x, H0, n0, rfl, ⟨a, rfl, ha⟩, _, _, h5⟩
  exact ⟨h1, h2, h3, sh n a, by simp only [sh, shL], (ownFz_sh (n := n) ha).mono (fun _ h => h.1) (fun id b _ hb => h5 id b hb)⟩
theorem nf40 (f : Fs) (hl : f.l.length ≤ 1000000) (hd : ∀ x, x ∈ f.l → x.d.length ≤ 1000000 ∧ x.pins.length ≤ 1000000) : NF Tryz.prog 40 [.agg f.cells] (fun r => r = .agg f.cells) :=
  nf_of_0 cal40 (args_1 (fsa_pur f)) ((ac40_0 f hl hd).mono (by rintro r H n ⟨x, rfl, a, rfl, ha⟩; exact ⟨_, _, rfl, ha.flat.own, rfl⟩))
end Go.Proofs.YtlmighkbeacjnaaGreatDoor


open Go Go.Lg
set_option linter.unusedSimpArgs false
set_option linter.unusedVariables false
set_option maxHeartbeats 4000000
set_option maxRecDepth 20000
namespace Go.Proofs.YtlmighkbeacjnaaGreatDoor
end Go.Proofs.YtlmighkbeacjnaaGreatDoor


open Go Go.Lg
set_option linter.unusedSimpArgs false
set_option linter.unusedVariables false
set_option maxHeartbeats 4000000
set_option maxRecDepth 20000
namespace Go.Proofs.YtlmighkbeacjnaaGreatDoor
end Go.Proofs.YtlmighkbeacjnaaGreatDoor


open Go Go.Lg
set_option linter.unusedSimpArgs false
set_option linter.unusedVariables false
set_option maxHeartbeats 4000000
set_option maxRecDepth 20000
namespace Go.Proofs.YtlmighkbeacjnaaGreatDoor
theorem okF_parts {c : Cf} {f : Fs} (h : okF c f = true) : c.good = true ∧ (f.l.length : Int) = c.fr ∧ 0 ≤ f.h ∧ f.h < f.l.length ∧ okL c [] f.l = true := by
  simp only [okF, okS, Bool.and_eq_true, decide_eq_true_eq] at h
  exact ⟨h.1.1.1.1, h.1.1.1.2, h.1.1.2, h.1.2, h.2⟩
end Go.Proofs.YtlmighkbeacjnaaGreatDoor


open Go Go.Lg
set_option linter.unusedSimpArgs false
set_option linter.unusedVariables false
set_option maxHeartbeats 4000000
set_option maxRecDepth 20000
namespace Go.Proofs.YtlmighkbeacjnaaGreatDoor
def two : Cf := ⟨4, 1, 2, 1, 4, 2, 2, 2, 4⟩
end Go.Proofs.YtlmighkbeacjnaaGreatDoor


open Go Go.Lg
set_option linter.unusedSimpArgs false
set_option linter.unusedVariables false
set_option maxHeartbeats 4000000
set_option maxRecDepth 20000
namespace Go.Proofs.YtlmighkbeacjnaaGreatDoor
theorem great_small {l : List Fr} (h : greatF l = false) : l.length ≤ 20 ∧ ∀ x, x ∈ l → x.d.length ≤ 100 ∧ x.pins.length ≤ 20 := by
  simp only [greatF, Bool.or_eq_false_iff, decide_eq_false_iff_not] at h
  have hl : l.length ≤ 20 := by omega
  rw [List.take_of_length_le hl] at h
  refine ⟨hl, fun x hx => ?_⟩
  have := (List.any_eq_false.1 h.1) x hx
  simp [bigF] at this
  omega
end Go.Proofs.YtlmighkbeacjnaaGreatDoor


