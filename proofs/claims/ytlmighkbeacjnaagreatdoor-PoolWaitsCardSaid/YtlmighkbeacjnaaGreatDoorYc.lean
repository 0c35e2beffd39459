/- Copies of lists: new slices. frames.Twin: new memory. The reference's copies. The clock's round, and frames.Victim. FramesClock: what the clock takes; plain. FramesClock: the law computes true. FramesClock: the law computes true. -/
import Derived.Test.YtlmighkbeacjnaaGreatDoorLm5
import Derived.Test.YtlmighkbeacjnaaGreatDoorYb
import Derived.Test.YtlmighkbeacjnaaGreatDoorLm6

open Go Go.Lg
set_option linter.unusedSimpArgs false
set_option linter.unusedVariables false
set_option maxHeartbeats 4000000
namespace Go.Proofs.YtlmighkbeacjnaaGreatDoor
theorem tkF5 : TOK Tryz.prog (tyOf Tryz.prog) := tok Tryz.prog
def tfF50 := PLift.up (aI ty5 <| aI ty28 <| Tryz.results42)
def tfF51 := PLift.up (aI ty3 <| aI ty72 <| Tryz.results76)
def tfF52 := PLift.up (aI ty3 <| aI ty4 <| aI ty5 <| aI ty24 <| aI ty28 <| aI ty72 <| aI ty74 <| Tryz.results75)
/-- Memory behind a copy. -/
def clH (H : Heap) (n : Nat) (e : TypeId) (rows : List (List AV)) : Heap := match rows with
  | [] => H
  | r :: rs => upd H n (some (.cells (r :: rs).flatten e))
def clN (n : Nat) (rows : List (List AV)) : Nat := match rows with
  | [] => n
  | _ :: _ => n + 1
theorem clN_le (n : Nat) (rows : List (List AV)) : n ≤ clN n rows := by cases rows <;> simp [clN]
theorem clH_old {H : Heap} {n : Nat} {e : TypeId} {rows : List (List AV)} {id : Nat} (h : id ≠ n) : clH H n e rows id = H id := by
  cases rows with
  | nil => rfl
  | cons r rs => exact upd_ne _ _ h
theorem clH_own {H : Heap} {n : Nat} {S : Nat → Prop} {e : TypeId} {sz : Nat} {rows : List (List AV)} (hlo : 0 < rows.length → S n) (hr : ∀ r, r ∈ rows → r.length = sz) (hf : ∀ x, x ∈ rows.flatten → Flat x) : Own (clH H n e rows) S (ownR n sz rows) (.view rows) := by
  cases rows with
  | nil => exact .nothing
  | cons r rs =>
    refine own_rows (len := (r :: rs).length) (hlo (Nat.succ_pos _)) (upd_same _ _ _) rfl hr ⟨rfl, fun i x y h1 h2 => ?_⟩
    rw [h1] at h2; cases h2
    exact (hf x (List.mem_of_getElem? h1)).own
theorem byteRows_flat (b : List UInt8) : ∀ x, x ∈ (byteRows b).flatten → Flat x := by
  intro x hx
  obtain ⟨r, h1, h2⟩ := List.mem_flatten.1 hx
  simp only [byteRows, List.mem_map] at h1
  obtain ⟨y, _, rfl⟩ := h1
  rcases List.mem_singleton.1 h2 with rfl; exact .int _ _
theorem intRows_flat (b : List Int) : ∀ x, x ∈ (intRows b).flatten → Flat x := by
  intro x hx
  obtain ⟨r, h1, h2⟩ := List.mem_flatten.1 hx
  simp only [intRows, List.mem_map] at h1
  obtain ⟨y, _, rfl⟩ := h1
  rcases List.mem_singleton.1 h2 with rfl; exact .int _ _
theorem pf42_nil : PF Tryz.prog 42 [.view (byteRows [])] (fun r => r = .empty) := by
  refine pf_of_wf0 Tryz.func42 (c := _) rfl rfl (Nat.le_of_ble_eq_true rfl) (args_1 (byteRows_pur [])) ?_
  rw [show Tryz.f42.ntmps = 8 from rfl]
  have tE := aI uU <| tfF50.down; repeat' first | (refine Red.h ?_) | ((with_reducible first | apply wz tkF5 | apply wr_z tkF5); exact zZ; decide) | ((with_reducible first | apply wp | apply wr_p); (focus (first | ((with_reducible first | apply p_slv tkF5); exact zT; exact zU; exact zT; exact zV; exact zN; exact zN; (focus (first | exact zU | exact zB)); (focus (first | exact zU | exact zB)); (focus (first | exact zU | assumption))) | ((with_reducible first | apply p_slo tkF5); exact zT; exact zU; exact zT; exact zV; exact zN; exact zN; (focus (first | exact zU | exact zB)); (focus (first | exact zU | exact zB)); (focus (first | exact zU | assumption))) | ((with_reducible first | apply p_nil tkF5 | apply p_nnil tkF5); exact zT; exact zV; exact zU) | ((with_reducible first | apply p_bs0 tkF5); exact zT; exact zU; exact zT) | ((with_reducible first | apply p_ap0 tkF5); exact zT; exact zU; exact zT; exact zT; exact zU; exact zA; exact zV; (focus (first | exact Or.inl rfl | exact Or.inr rfl))) | ((with_reducible first | apply p_bytes tkF5); exact zT; exact zU; exact zT; exact zU; exact zT; exact zU; exact zV))); decide) | ((with_reducible first | apply wl_nilx tkF5); (focus (first | exact Or.inl rfl | exact Or.inr rfl)); exact zT; exact zU; exact zV; (focus (first | exact Or.inl rfl | exact Or.inr ⟨_, rfl⟩)); decide; intro b; cases b) | ((with_reducible first | apply w_ift'); exact zV; exact zU) | ((with_reducible first | apply w_iff'); exact zV; exact zU) | ((with_reducible apply w_ret); (repeat refine Red.h ?_); (with_reducible first | apply donef_ret tkF5 | apply doneA_ret tkF5); exact zT; exact zD) | fail
  all_goals try clear tE
  · exact .pur .empty
  · exact .empty
  · rfl
  · exact .pur .empty
  · exact .empty
  · rfl
theorem ac42_some (x : UInt8) (l : List UInt8) (hll : l.length ≤ 1000000) : AC Tryz.prog 42 [.view (byteRows (x :: l))] (hl []) 0 (fun r H _ => ∃ id, r = .ret (.slice id 0 (byteRows (x :: l)).length none 1) ∧ H id = some (.cells (byteRows (x :: l)).flatten 5)) := by
  refine ac_of_w Tryz.func42 (c := _) rfl (Nat.le_of_ble_eq_true rfl) ?_
  rw [show Tryz.f42.ntmps = 8 from rfl]
  have hr := byteRows_row (x :: l)
  have hbl := byteRows_len (x :: l)
  rw [List.length_cons] at hbl
  have tE := aI uU <| aI hbl <| tfF50.down; repeat' first | (refine Red.h ?_) | ((with_reducible first | apply wz tkF5 | apply wr_z tkF5); exact zZ; decide) | ((with_reducible first | apply w_ap | apply wr_ap); (focus (first | (intro _ ho _ hr _; (with_reducible apply ap_new tkF5 ho (hr := hr)); exact zT; exact zU; exact zT; exact zT; exact zU; exact zA; exact zV; exact zK; exact zM; exact zK; exact zK; decide) | (intro _ ho _ hr _; (with_reducible apply ap_own tkF5 ho (hr := hr)); exact zT; exact zU; exact zT; exact zT; exact zU; exact zV; exact zV; exact zH; exact zKo; exact zM; (focus (first | rfl | assumption)); exact zKo; exact zKo; decide))); decide) | ((with_reducible first | apply wp | apply wr_p); (focus (first | ((with_reducible first | apply p_slv tkF5); exact zT; exact zU; exact zT; exact zV; exact zN; exact zN; (focus (first | exact zU | exact zB)); (focus (first | exact zU | exact zB)); (focus (first | exact zU | assumption))) | ((with_reducible first | apply p_slo tkF5); exact zT; exact zU; exact zT; exact zV; exact zN; exact zN; (focus (first | exact zU | exact zB)); (focus (first | exact zU | exact zB)); (focus (first | exact zU | assumption))) | ((with_reducible first | apply p_nil tkF5 | apply p_nnil tkF5); exact zT; exact zV; exact zU) | ((with_reducible first | apply p_bs0 tkF5); exact zT; exact zU; exact zT) | ((with_reducible first | apply p_ap0 tkF5); exact zT; exact zU; exact zT; exact zT; exact zU; exact zA; exact zV; (focus (first | exact Or.inl rfl | exact Or.inr rfl))) | ((with_reducible first | apply p_bytes tkF5); exact zT; exact zU; exact zT; exact zU; exact zT; exact zU; exact zV))); decide) | ((with_reducible first | apply w_iff'); exact zV; exact zU) | ((with_reducible apply w_ret); (repeat refine Red.h ?_); (with_reducible first | apply donef_ret tkF5 | apply doneA_ret tkF5); exact zT; exact zD) | fail
  all_goals try clear tE
  exact ⟨0, by rw [hbl]; rfl, rfl⟩
/-- The copy is told by the memory ahead of it. -/
theorem ac42 (l : List UInt8) (hll : l.length ≤ 1000000) (H : Heap) (n : Nat) : AC Tryz.prog 42 [.view (byteRows l)] H n (fun r H' n' => r = .ret (ownR n 1 (byteRows l)) ∧ H' = clH H n 5 (byteRows l) ∧ n' = clN n (byteRows l)) := by
  cases l with
  | nil =>
    refine (ac_pure pf42_nil H n).mono ?_
    rintro r H' n' ⟨rfl, rfl, x, rfl, _, rfl⟩
    exact ⟨rfl, rfl, rfl⟩
  | cons x l =>
    simp only [List.length_cons] at hll
    refine (ac_own1 (F := fun len cap sz cs e => len = (byteRows (x :: l)).length ∧ cap = none ∧ sz = 1 ∧ cs = (byteRows (x :: l)).flatten ∧ e = 5) (args_1 (byteRows_pur (x :: l))) ((ac42_some x l (by omega)).mono ?_) H n).mono ?_
    · rintro r H n ⟨id, hr, hH⟩
      exact ⟨id, _, _, _, _, _, hr, hH, flat_pur (byteRows_pur (x :: l)), rfl, rfl, rfl, rfl, rfl⟩
    · rintro r H n ⟨len, cap, sz, cs, e, h1, h2, h3, rfl, rfl, rfl, rfl, rfl⟩
      exact ⟨h1, h2, h3⟩
theorem pf76_nil : PF Tryz.prog 76 [.view (intRows [])] (fun r => r = .empty) := by
  refine pf_of_wf0 Tryz.func76 (c := _) rfl rfl (Nat.le_of_ble_eq_true rfl) (args_1 (intRows_pur [])) ?_
  rw [show Tryz.f76.ntmps = 8 from rfl]
  have tE := aI uU <| tfF51.down; repeat' first | (refine Red.h ?_) | ((with_reducible first | apply wz tkF5 | apply wr_z tkF5); exact zZ; decide) | ((with_reducible first | apply wp | apply wr_p); (focus (first | ((with_reducible first | apply p_slv tkF5); exact zT; exact zU; exact zT; exact zV; exact zN; exact zN; (focus (first | exact zU | exact zB)); (focus (first | exact zU | exact zB)); (focus (first | exact zU | assumption))) | ((with_reducible first | apply p_slo tkF5); exact zT; exact zU; exact zT; exact zV; exact zN; exact zN; (focus (first | exact zU | exact zB)); (focus (first | exact zU | exact zB)); (focus (first | exact zU | assumption))) | ((with_reducible first | apply p_nil tkF5 | apply p_nnil tkF5); exact zT; exact zV; exact zU) | ((with_reducible first | apply p_bs0 tkF5); exact zT; exact zU; exact zT) | ((with_reducible first | apply p_ap0 tkF5); exact zT; exact zU; exact zT; exact zT; exact zU; exact zA; exact zV; (focus (first | exact Or.inl rfl | exact Or.inr rfl))) | ((with_reducible first | apply p_bytes tkF5); exact zT; exact zU; exact zT; exact zU; exact zT; exact zU; exact zV))); decide) | ((with_reducible first | apply wl_nilx tkF5); (focus (first | exact Or.inl rfl | exact Or.inr rfl)); exact zT; exact zU; exact zV; (focus (first | exact Or.inl rfl | exact Or.inr ⟨_, rfl⟩)); decide; intro b; cases b) | ((with_reducible first | apply w_ift'); exact zV; exact zU) | ((with_reducible first | apply w_iff'); exact zV; exact zU) | ((with_reducible apply w_ret); (repeat refine Red.h ?_); (with_reducible first | apply donef_ret tkF5 | apply doneA_ret tkF5); exact zT; exact zD) | fail
  all_goals try clear tE
  · exact .pur .empty
  · exact .empty
  · rfl
  · exact .pur .empty
  · exact .empty
  · rfl
theorem ac76_some (x : Int) (l : List Int) (hll : l.length ≤ 1000000) : AC Tryz.prog 76 [.view (intRows (x :: l))] (hl []) 0 (fun r H _ => ∃ id, r = .ret (.slice id 0 (intRows (x :: l)).length none 1) ∧ H id = some (.cells (intRows (x :: l)).flatten 3)) := by
  refine ac_of_w Tryz.func76 (c := _) rfl (Nat.le_of_ble_eq_true rfl) ?_
  rw [show Tryz.f76.ntmps = 8 from rfl]
  have hr := intRows_row (x :: l)
  have hbl := intRows_len (x :: l)
  rw [List.length_cons] at hbl
  have tE := aI uU <| aI hbl <| tfF51.down; repeat' first | (refine Red.h ?_) | ((with_reducible first | apply wz tkF5 | apply wr_z tkF5); exact zZ; decide) | ((with_reducible first | apply w_ap | apply wr_ap); (focus (first | (intro _ ho _ hr _; (with_reducible apply ap_new tkF5 ho (hr := hr)); exact zT; exact zU; exact zT; exact zT; exact zU; exact zA; exact zV; exact zK; exact zM; exact zK; exact zK; decide) | (intro _ ho _ hr _; (with_reducible apply ap_own tkF5 ho (hr := hr)); exact zT; exact zU; exact zT; exact zT; exact zU; exact zV; exact zV; exact zH; exact zKo; exact zM; (focus (first | rfl | assumption)); exact zKo; exact zKo; decide))); decide) | ((with_reducible first | apply wp | apply wr_p); (focus (first | ((with_reducible first | apply p_slv tkF5); exact zT; exact zU; exact zT; exact zV; exact zN; exact zN; (focus (first | exact zU | exact zB)); (focus (first | exact zU | exact zB)); (focus (first | exact zU | assumption))) | ((with_reducible first | apply p_slo tkF5); exact zT; exact zU; exact zT; exact zV; exact zN; exact zN; (focus (first | exact zU | exact zB)); (focus (first | exact zU | exact zB)); (focus (first | exact zU | assumption))) | ((with_reducible first | apply p_nil tkF5 | apply p_nnil tkF5); exact zT; exact zV; exact zU) | ((with_reducible first | apply p_bs0 tkF5); exact zT; exact zU; exact zT) | ((with_reducible first | apply p_ap0 tkF5); exact zT; exact zU; exact zT; exact zT; exact zU; exact zA; exact zV; (focus (first | exact Or.inl rfl | exact Or.inr rfl))) | ((with_reducible first | apply p_bytes tkF5); exact zT; exact zU; exact zT; exact zU; exact zT; exact zU; exact zV))); decide) | ((with_reducible first | apply w_iff'); exact zV; exact zU) | ((with_reducible apply w_ret); (repeat refine Red.h ?_); (with_reducible first | apply donef_ret tkF5 | apply doneA_ret tkF5); exact zT; exact zD) | fail
  all_goals try clear tE
  exact ⟨0, by rw [hbl]; rfl, rfl⟩
/-- The copy is told by the memory ahead of it. -/
theorem ac76 (l : List Int) (hll : l.length ≤ 1000000) (H : Heap) (n : Nat) : AC Tryz.prog 76 [.view (intRows l)] H n (fun r H' n' => r = .ret (ownR n 1 (intRows l)) ∧ H' = clH H n 3 (intRows l) ∧ n' = clN n (intRows l)) := by
  cases l with
  | nil =>
    refine (ac_pure pf76_nil H n).mono ?_
    rintro r H' n' ⟨rfl, rfl, x, rfl, _, rfl⟩
    exact ⟨rfl, rfl, rfl⟩
  | cons x l =>
    simp only [List.length_cons] at hll
    refine (ac_own1 (F := fun len cap sz cs e => len = (intRows (x :: l)).length ∧ cap = none ∧ sz = 1 ∧ cs = (intRows (x :: l)).flatten ∧ e = 3) (args_1 (intRows_pur (x :: l))) ((ac76_some x l (by omega)).mono ?_) H n).mono ?_
    · rintro r H n ⟨id, hr, hH⟩
      exact ⟨id, _, _, _, _, _, hr, hH, flat_pur (intRows_pur (x :: l)), rfl, rfl, rfl, rfl, rfl⟩
    · rintro r H n ⟨len, cap, sz, cs, e, h1, h2, h3, rfl, rfl, rfl, rfl, rfl⟩
      exact ⟨h1, h2, h3⟩
theorem pf75_nil : PF Tryz.prog 75 [.view (frRows [])] (fun r => r = .empty) := by
  refine pf_of_wf0 Tryz.func75 (c := _) rfl rfl (Nat.le_of_ble_eq_true rfl) (args_1 (frRows_pur [])) ?_
  rw [show Tryz.f75.ntmps = 8 from rfl]
  have tE := aI uU <| tfF52.down; repeat' first | (refine Red.h ?_) | ((with_reducible first | apply wz tkF5 | apply wr_z tkF5); exact zZ; decide) | ((with_reducible first | apply wp | apply wr_p); (focus (first | ((with_reducible first | apply p_slv tkF5); exact zT; exact zU; exact zT; exact zV; exact zN; exact zN; (focus (first | exact zU | exact zB)); (focus (first | exact zU | exact zB)); (focus (first | exact zU | assumption))) | ((with_reducible first | apply p_slo tkF5); exact zT; exact zU; exact zT; exact zV; exact zN; exact zN; (focus (first | exact zU | exact zB)); (focus (first | exact zU | exact zB)); (focus (first | exact zU | assumption))) | ((with_reducible first | apply p_nil tkF5 | apply p_nnil tkF5); exact zT; exact zV; exact zU) | ((with_reducible first | apply p_bs0 tkF5); exact zT; exact zU; exact zT) | ((with_reducible first | apply p_ap0 tkF5); exact zT; exact zU; exact zT; exact zT; exact zU; exact zA; exact zV; (focus (first | exact Or.inl rfl | exact Or.inr rfl))) | ((with_reducible first | apply p_bytes tkF5); exact zT; exact zU; exact zT; exact zU; exact zT; exact zU; exact zV))); decide) | ((with_reducible first | apply wl_nilx tkF5); (focus (first | exact Or.inl rfl | exact Or.inr rfl)); exact zT; exact zU; exact zV; (focus (first | exact Or.inl rfl | exact Or.inr ⟨_, rfl⟩)); decide; intro b; cases b) | ((with_reducible first | apply w_ift'); exact zV; exact zU) | ((with_reducible first | apply w_iff'); exact zV; exact zU) | ((with_reducible apply w_ret); (repeat refine Red.h ?_); (with_reducible first | apply donef_ret tkF5 | apply doneA_ret tkF5); exact zT; exact zD) | fail
  all_goals try clear tE
  · exact .pur .empty
  · exact .empty
  · rfl
  · exact .pur .empty
  · exact .empty
  · rfl
theorem ac75_some (x : Fr) (l : List Fr) (hll : l.length ≤ 1000000) : AC Tryz.prog 75 [.view (frRows (x :: l))] (hl []) 0 (fun r H _ => ∃ id, r = .ret (.slice id 0 (frRows (x :: l)).length none 6) ∧ H id = some (.cells (frRows (x :: l)).flatten 74)) := by
  refine ac_of_w Tryz.func75 (c := _) rfl (Nat.le_of_ble_eq_true rfl) ?_
  rw [show Tryz.f75.ntmps = 8 from rfl]
  have hr := frRows_row (x :: l)
  have hbl := frRows_len (x :: l)
  rw [List.length_cons] at hbl
  have tE := aI uU <| aI hbl <| tfF52.down; repeat' first | (refine Red.h ?_) | ((with_reducible first | apply wz tkF5 | apply wr_z tkF5); exact zZ; decide) | ((with_reducible first | apply w_ap | apply wr_ap); (focus (first | (intro _ ho _ hr _; (with_reducible apply ap_new tkF5 ho (hr := hr)); exact zT; exact zU; exact zT; exact zT; exact zU; exact zA; exact zV; exact zK; exact zM; exact zK; exact zK; decide) | (intro _ ho _ hr _; (with_reducible apply ap_own tkF5 ho (hr := hr)); exact zT; exact zU; exact zT; exact zT; exact zU; exact zV; exact zV; exact zH; exact zKo; exact zM; (focus (first | rfl | assumption)); exact zKo; exact zKo; decide))); decide) | ((with_reducible first | apply wp | apply wr_p); (focus (first | ((with_reducible first | apply p_slv tkF5); exact zT; exact zU; exact zT; exact zV; exact zN; exact zN; (focus (first | exact zU | exact zB)); (focus (first | exact zU | exact zB)); (focus (first | exact zU | assumption))) | ((with_reducible first | apply p_slo tkF5); exact zT; exact zU; exact zT; exact zV; exact zN; exact zN; (focus (first | exact zU | exact zB)); (focus (first | exact zU | exact zB)); (focus (first | exact zU | assumption))) | ((with_reducible first | apply p_nil tkF5 | apply p_nnil tkF5); exact zT; exact zV; exact zU) | ((with_reducible first | apply p_bs0 tkF5); exact zT; exact zU; exact zT) | ((with_reducible first | apply p_ap0 tkF5); exact zT; exact zU; exact zT; exact zT; exact zU; exact zA; exact zV; (focus (first | exact Or.inl rfl | exact Or.inr rfl))) | ((with_reducible first | apply p_bytes tkF5); exact zT; exact zU; exact zT; exact zU; exact zT; exact zU; exact zV))); decide) | ((with_reducible first | apply w_iff'); exact zV; exact zU) | ((with_reducible apply w_ret); (repeat refine Red.h ?_); (with_reducible first | apply donef_ret tkF5 | apply doneA_ret tkF5); exact zT; exact zD) | fail
  all_goals try clear tE
  exact ⟨0, by rw [hbl]; rfl, rfl⟩
/-- The copy is told by the memory ahead of it. -/
theorem ac75 (l : List Fr) (hll : l.length ≤ 1000000) (H : Heap) (n : Nat) : AC Tryz.prog 75 [.view (frRows l)] H n (fun r H' n' => r = .ret (ownR n 6 (frRows l)) ∧ H' = clH H n 74 (frRows l) ∧ n' = clN n (frRows l)) := by
  cases l with
  | nil =>
    refine (ac_pure pf75_nil H n).mono ?_
    rintro r H' n' ⟨rfl, rfl, x, rfl, _, rfl⟩
    exact ⟨rfl, rfl, rfl⟩
  | cons x l =>
    simp only [List.length_cons] at hll
    refine (ac_own1 (F := fun len cap sz cs e => len = (frRows (x :: l)).length ∧ cap = none ∧ sz = 6 ∧ cs = (frRows (x :: l)).flatten ∧ e = 74) (args_1 (frRows_pur (x :: l))) ((ac75_some x l (by omega)).mono ?_) H n).mono ?_
    · rintro r H n ⟨id, hr, hH⟩
      exact ⟨id, _, _, _, _, _, hr, hH, flat_pur (frRows_pur (x :: l)), rfl, rfl, rfl, rfl, rfl⟩
    · rintro r H n ⟨len, cap, sz, cs, e, h1, h2, h3, rfl, rfl, rfl, rfl, rfl⟩
      exact ⟨h1, h2, h3⟩
end Go.Proofs.YtlmighkbeacjnaaGreatDoor


open Go Go.Lg
set_option linter.unusedSimpArgs false
set_option linter.unusedVariables false
set_option maxHeartbeats 4000000
set_option maxRecDepth 20000
namespace Go.Proofs.YtlmighkbeacjnaaGreatDoor
theorem tkF6 : TOK Tryz.prog (tyOf Tryz.prog) := tok Tryz.prog
def tfF60 := PLift.up (aI ty3 <| aI ty4 <| aI ty5 <| aI ty24 <| aI ty26 <| aI ty28 <| aI ty72 <| aI ty74 <| Tryz.results40)
/-- A frame in own memory: where its bytes and its pins are. -/
def oRow (x : Fr) (ab : AV × AV) : List AV := [.int .u8 x.k, .int .i64 x.p, ab.1, ab.2, .bool x.rf, .bool x.dt]
def oRows (l : List Fr) (m : List (AV × AV)) : List (List AV) := List.zipWith oRow l m
def viewsF (l : List Fr) : List (AV × AV) := l.map fun x => (.view (byteRows x.d), .view (intRows x.pins))
theorem oRows_views (l : List Fr) : oRows l (viewsF l) = frRows l := by
  induction l with
  | nil => rfl
  | cons x l ih =>
    show oRow x _ :: oRows l (viewsF l) = Fr.cells x :: frRows l
    rw [ih]; rfl
theorem oRows_row (l : List Fr) (m : List (AV × AV)) : ∀ r, r ∈ oRows l m → r.length = 6 := by
  intro r hr
  obtain ⟨i, hi, rfl⟩ := List.getElem_of_mem hr
  simp [oRows, oRow]
theorem oRows_len {l : List Fr} {m : List (AV × AV)} (h : m.length = l.length) : (oRows l m).length = l.length := by simp [oRows, h]
theorem oFlat_len {l : List Fr} {m : List (AV × AV)} (h : m.length = l.length) : (oRows l m).flatten.length = l.length * 6 := by
  rw [flat_len (oRows_row l m), oRows_len h]
theorem oRows_at {l : List Fr} {m : List (AV × AV)} {i : Nat} {u : Fr} {ab : AV × AV} (h : l[i]? = some u) (h' : m[i]? = some ab) : (oRows l m)[i]? = some (oRow u ab) := by
  rw [oRows, List.getElem?_zipWith, h, h']
theorem oFlat_at {l : List Fr} {m : List (AV × AV)} {i : Nat} {u : Fr} {ab : AV × AV} (h : l[i]? = some u) (h' : m[i]? = some ab) {j : Nat} (hj : j < 6) : (oRows l m).flatten[i * 6 + j]? = (oRow u ab)[j]? :=
  flat_at (oRows_row l m) (oRows_at h h') hj
theorem oRows_set {l : List Fr} {m : List (AV × AV)} {i : Nat} {u : Fr} {ab : AV × AV} (h : l[i]? = some u) : (oRows l m).set i (oRow u ab) = oRows l (m.set i ab) := by
  refine List.ext_getElem? fun j => ?_
  rw [List.getElem?_set, oRows, oRows, List.getElem?_zipWith, List.getElem?_zipWith, List.getElem?_set]
  by_cases e : i = j
  · subst e
    simp only [if_true, h, List.length_zipWith]
    have hl := (List.getElem?_eq_some_iff.1 h).1
    by_cases hm : i < m.length
    · rw [if_pos (by omega), if_pos hm]
    · rw [if_neg (by omega), if_neg hm]
  · simp only [if_neg e]
theorem oFlat_set2 {l : List Fr} {m : List (AV × AV)} {i : Nat} {u : Fr} {ab : AV × AV} (h : l[i]? = some u) (h' : m[i]? = some ab) (a b : AV) : ((oRows l m).flatten.set (i * 6 + 2) a).set (i * 6 + 3) b = (oRows l (m.set i (a, b))).flatten := by
  rw [flat_set (oRows_row l m) a (oRows_at h h') (by decide), show (oRow u ab).set 2 a = oRow u (a, ab.2) from rfl, oRows_set h]
  have h2 : (m.set i (a, ab.2))[i]? = some (a, ab.2) := List.getElem?_set_self (List.getElem?_eq_some_iff.1 h').1
  rw [flat_set (oRows_row l _) b (oRows_at h h2) (by decide), show (oRow u (a, ab.2)).set 3 b = oRow u (a, b) from rfl, oRows_set h, List.set_set]
theorem oFlat_set3 {l : List Fr} {m : List (AV × AV)} {i : Nat} {u : Fr} {ab : AV × AV} (h : l[i]? = some u) (h' : m[i]? = some ab) (a b : AV) : ((oRows l m).flatten.set (i * 6 + 3) b).set (i * 6 + 2) a = (oRows l (m.set i (a, b))).flatten := by
  rw [List.set_comm _ _ (by omega), oFlat_set2 h h']
/-- The bytes and pins of frames are own memory, from an id on. -/
def OwnAB (H : Heap) (S : Nat → Prop) (u : Fr) (ab : AV × AV) : Prop := Own H S ab.1 (.view (byteRows u.d)) ∧ Own H S ab.2 (.view (intRows u.pins))
theorem OwnAB.mono {H H' : Heap} {S S' : Nat → Prop} (hS : ∀ id, S id → S' id) (hs : ∀ id b, S id → H id = some b → H' id = some b) {u : Fr} {ab : AV × AV} (h : OwnAB H S u ab) : OwnAB H' S' u ab := ⟨h.1.mono hS hs, h.2.mono hS hs⟩
def OwnABs (H : Heap) (S : Nat → Prop) (l : List Fr) (m : List (AV × AV)) : Prop := m.length = l.length ∧ ∀ (j : Nat) u ab, l[j]? = some u → m[j]? = some ab → OwnAB H S u ab
/-- As much, no two of them in one block. -/
def OwnABz (H : Heap) (S : Nat → Prop) (l : List Fr) (m : List (AV × AV)) : Prop := m.length = l.length ∧ ∃ g : Nat → Nat, ∀ (j : Nat) u ab, l[j]? = some u → m[j]? = some ab → Own H (fun x => S x ∧ g x = 2 * j) ab.1 (.view (byteRows u.d)) ∧ Own H (fun x => S x ∧ g x = 2 * j + 1) ab.2 (.view (intRows u.pins))
theorem OwnABz.flat {H : Heap} {S : Nat → Prop} {l : List Fr} {m : List (AV × AV)} (h : OwnABz H S l m) : OwnABs H S l m := by
  obtain ⟨h1, g, h2⟩ := h
  exact ⟨h1, fun j u ab hu hab => ⟨(h2 j u ab hu hab).1.mono (fun _ h => h.1) (fun _ _ _ h => h), (h2 j u ab hu hab).2.mono (fun _ h => h.1) (fun _ _ _ h => h)⟩⟩
def OwnFz (H : Heap) (S : Nat → Prop) (f : Fs) (a : AV) : Prop := (f.l = [] ∧ a = .empty) ∨ (0 < f.l.length ∧ ∃ id m, S id ∧ a = .slice id 0 f.l.length none 6 ∧ H id = some (.cells (oRows f.l m).flatten 74) ∧ OwnABz H (fun j => S j ∧ j ≠ id) f.l m)
/-- Frames in own memory. -/
def OwnF (H : Heap) (S : Nat → Prop) (f : Fs) (a : AV) : Prop := (f.l = [] ∧ a = .empty) ∨ (0 < f.l.length ∧ ∃ id m, S id ∧ a = .slice id 0 f.l.length none 6 ∧ H id = some (.cells (oRows f.l m).flatten 74) ∧ OwnABs H (fun j => S j ∧ j ≠ id) f.l m)
theorem ac75p (l : List Fr) (h0 : 0 < l.length) (hl : l.length ≤ 1000000) (H : Heap) (n : Nat) : AC Tryz.prog 75 [.view (frRows l)] H n (fun r H' n' => r = .ret (.slice n 0 l.length none 6) ∧ H' = upd H n (some (.cells (frRows l).flatten 74)) ∧ n' = n + 1) := by
  refine (ac75 l hl H n).mono ?_
  cases l with
  | nil => cases h0
  | cons x l =>
    rintro r H' n' ⟨rfl, rfl, rfl⟩
    exact ⟨by show AR.ret (.slice n 0 ((frRows l).length + 1) none 6) = _; rw [frRows_len]; rfl, rfl, rfl⟩
theorem clH_b (H : Heap) (n : Nat) (e : TypeId) (rows : List (List AV)) (id : Nat) (h : (id == n) = false) : clH H n e rows id = H id := clH_old (by simpa using h)
/-- What Twin's loop holds. -/
structure TwI (f : Fs) (i : Nat) (m : List (AV × AV)) (H : Heap) (k : Nat) : Prop where
  le : i ≤ f.l.length
  len : m.length = f.l.length
  h0 : H 0 = some (.cells [.slice 2 0 f.l.length none 6, .int .i64 f.h] 26)
  h1 : H 1 = some (.cells [.empty, .int .i64 (Int.ofNat 0)] 26)
  h2 : H 2 = some (.cells (oRows f.l m).flatten 74)
  k3 : 3 ≤ k
  own : ∃ g : Nat → Nat, ∀ (j : Nat) u ab, f.l[j]? = some u → m[j]? = some ab → j < i → Own H (fun x => 3 ≤ x ∧ g x = 2 * j) ab.1 (.view (byteRows u.d)) ∧ Own H (fun x => 3 ≤ x ∧ g x = 2 * j + 1) ab.2 (.view (intRows u.pins))
  pur : ∀ (j : Nat) u ab, f.l[j]? = some u → m[j]? = some ab → i ≤ j → ab = (.view (byteRows u.d), .view (intRows u.pins))
  top : ∀ id, k ≤ id → H id = none
theorem tw_step {f : Fs} {i : Nat} {m : List (AV × AV)} {H : Heap} {k : Nat} {u : Fr} (hI : TwI f i m H k) (hu : f.l[i]? = some u) :
    TwI f (i + 1) (m.set i (ownR k 1 (byteRows u.d), ownR (clN k (byteRows u.d)) 1 (intRows u.pins))) (upd (clH (clH H k 5 (byteRows u.d)) (clN k (byteRows u.d)) 3 (intRows u.pins)) 2 (some (.cells (oRows f.l (m.set i (ownR k 1 (byteRows u.d), ownR (clN k (byteRows u.d)) 1 (intRows u.pins)))).flatten 74))) (clN (clN k (byteRows u.d)) (intRows u.pins)) := by
  obtain ⟨hi, hm, e0, e1, e2, hk, hown, hpur, htop⟩ := hI
  have hil := (List.getElem?_eq_some_iff.1 hu).1
  have c1 := clN_le k (byteRows u.d)
  have c2 := clN_le (clN k (byteRows u.d)) (intRows u.pins)
  have old : ∀ id, id < k → clH (clH H k 5 (byteRows u.d)) (clN k (byteRows u.d)) 3 (intRows u.pins) id = H id := fun id h => by rw [clH_old (by omega), clH_old (by omega)]
  obtain ⟨g, hown⟩ := hown
  have keep : ∀ g' : Nat → Nat, (∀ x, x < k → g' x = g x) → ∀ q id b, (3 ≤ id ∧ g id = q) → H id = some b → (3 ≤ id ∧ g' id = q) ∧ upd (clH (clH H k 5 (byteRows u.d)) (clN k (byteRows u.d)) 3 (intRows u.pins)) 2 (some (.cells (oRows f.l (m.set i (ownR k 1 (byteRows u.d), ownR (clN k (byteRows u.d)) 1 (intRows u.pins)))).flatten 74)) id = some b := fun g' hg q id b h3 hb => by
    have : id < k := by
      rcases Nat.lt_or_ge id k with h | h
      · exact h
      · rw [htop id h] at hb; cases hb
    exact ⟨⟨h3.1, by rw [hg id this]; exact h3.2⟩, by rw [upd_ne _ _ (by omega), old id this]; exact hb⟩
  refine ⟨by omega, by rw [List.length_set]; exact hm, ?_, ?_, upd_same _ _ _, by omega, ⟨fun x => if x < k then g x else if x < clN k (byteRows u.d) then 2 * i else 2 * i + 1, fun j v ab hv hab hj => ?_⟩, fun j v ab hv hab hj => ?_, fun id hid => ?_⟩
  · rw [upd_ne _ _ (by decide), old 0 (by omega)]; exact e0
  · rw [upd_ne _ _ (by decide), old 1 (by omega)]; exact e1
  · rw [List.getElem?_set] at hab
    split at hab
    · rename_i e
      subst e
      rw [hu] at hv; cases hv
      rw [if_pos (by omega)] at hab; cases hab
      refine ⟨?_, ?_⟩
      · refine (clH_own (H := H) (n := k) (S := fun x => 3 ≤ x ∧ (if x < k then g x else if x < clN k (byteRows u.d) then 2 * i else 2 * i + 1) = 2 * i) (e := 5) (sz := 1) (fun hp => ⟨hk, ?_⟩) (byteRows_row u.d) (byteRows_flat u.d)).mono (fun _ h => h) (fun id b h3 hb => ?_)
        · have : clN k (byteRows u.d) = k + 1 := by
            cases hd : byteRows u.d with
            | nil => rw [hd] at hp; cases hp
            | cons r rs => rfl
          rw [if_neg (by omega), if_pos (by omega)]
        · have h3 : 3 ≤ id := h3.1
          rw [upd_ne _ _ (by omega), clH_old]
          · exact hb
          · intro e
            subst e
            cases hd : byteRows u.d with
            | nil => rw [hd] at hb; have : H k = some b := hb; rw [htop k (Nat.le_refl _)] at this; cases this
            | cons r rs => rw [hd] at hb; have : upd H k _ (k + 1) = some b := hb; rw [upd_ne _ _ (by omega), htop _ (by omega)] at this; cases this
      · refine (clH_own (H := clH H k 5 (byteRows u.d)) (n := clN k (byteRows u.d)) (S := fun x => 3 ≤ x ∧ (if x < k then g x else if x < clN k (byteRows u.d) then 2 * i else 2 * i + 1) = 2 * i + 1) (e := 3) (sz := 1) (fun _ => ⟨by omega, by rw [if_neg (by omega), if_neg (by omega)]⟩) (intRows_row u.pins) (intRows_flat u.pins)).mono (fun _ h => h) (fun id b h3 hb => ?_)
        have h3 : 3 ≤ id := h3.1
        rw [upd_ne _ _ (by omega)]; exact hb
    · have h := hown j v ab hv hab (by omega)
      have hg : ∀ x, x < k → (fun x => if x < k then g x else if x < clN k (byteRows u.d) then 2 * i else 2 * i + 1) x = g x := fun x hx => if_pos hx
      exact ⟨h.1.mv (keep _ hg (2 * j)), h.2.mv (keep _ hg (2 * j + 1))⟩
  · rw [List.getElem?_set_ne (by omega)] at hab
    exact hpur j v ab hv hab (by omega)
  · rw [upd_ne _ _ (by omega)]
    have h1 : clH H k 5 (byteRows u.d) id = none := by
      cases hd : byteRows u.d with
      | nil => exact htop id (by omega)
      | cons r rs =>
        rw [hd] at c1 c2 hid
        have : k + 1 ≤ id := by have := clN_le (clN k (r :: rs)) (intRows u.pins); show clN k (r :: rs) ≤ id; omega
        show upd H k _ id = none
        rw [upd_ne _ _ (by omega)]; exact htop id (by omega)
    cases hp : intRows u.pins with
    | nil => exact h1
    | cons r rs =>
      rw [hp] at hid
      have : clN k (byteRows u.d) + 1 ≤ id := hid
      show upd (clH H k 5 (byteRows u.d)) _ _ id = none
      rw [upd_ne _ _ (by omega)]; exact h1
theorem ac40_some (f : Fs) (h0 : 0 < f.l.length) (hl : f.l.length ≤ 1000000) (hd : ∀ x, x ∈ f.l → x.d.length ≤ 1000000 ∧ x.pins.length ≤ 1000000) : AC Tryz.prog 40 [.agg f.cells] (Lg.hl []) 0 (fun r H _ => ∃ x, r = .ret x ∧ ∃ a, x = .agg [a, .int .i64 f.h] ∧ OwnFz H (fun _ => True) f a) := by
  refine ac_of_w Tryz.func40 (c := _) rfl (Nat.le_of_ble_eq_true rfl) ?_
  rw [show Tryz.f40.ntmps = 37 from rfl]
  have tE := aI uU <| aI Fs.cells.eq_1 <| tfF60.down; repeat' first | (refine Red.h ?_) | ((with_reducible apply l_box (d := 1)); exact zV; exact zU; decide) | ((with_reducible first | apply wz tkF6 | apply wr_z tkF6); exact zZ; decide) | ((with_reducible first | apply w_alloc tkF6); exact zT; decide) | ((with_reducible first | apply w_store tkF6); exact zV; exact zV; exact zS) | ((with_reducible first | apply wacall'); exact zV; exact zVs; exact zAs; (focus (first | exact ⟨_, Tryz.func75, rfl, rfl⟩)); (focus (with_unfolding_all first | exact ac75p f.l h0 hl _ _)); decide) | fail
  all_goals try clear tE
  refine w_loopP (S := Nat × List (AV × AV)) (fun s => [(1, .ptr 0 0), (2, .ptr 1 0), (11, .int .i64 (f.l.length : Int)), (12, .int .i64 (s.1 : Int))]) [] (fun s H k => TwI f s.1 s.2 H k) (fun s => f.l.length - s.1) (0, viewsF f.l) ?_ rfl ?_ ?_
  · (have tE := uU; simp only [fitsT, List.take_zero, List.length_nil, sp_cons, sp_nil, upd_b, Nat.reduceBEq, cond_true, cond_false, args0_zero, args0_succ, args0_nil, tE]; repeat' first | exact trivial | apply aI | exact Sub.refl _ | exact Sub.cap)
  · refine ⟨Nat.zero_le _, by simp [viewsF], rfl, rfl, by rw [oRows_views]; rfl, Nat.le_refl _, ⟨fun _ => 0, fun j u ab _ _ h => absurd h (Nat.not_lt_zero _)⟩, fun j u ab h h' _ => ?_, fun id hid => ?_⟩
    · simp [viewsF, h] at h'; exact h'.symm
    · match id, hid with
      | id + 3, _ => rfl
  · rintro ⟨i, m⟩ H k hI
    obtain ⟨hi, hm, e0, e1, e2, hk, hown, hpur, htop⟩ := hI
    simp only at hi hm e0 e1 e2 hk hown hpur htop
    have hw : IntKind.i64.wrap ((i : Int) + 1) = ((i + 1 : Nat) : Int) := by rw [wrap64 (by omega) (by omega)]; rfl
    have g0 : (0 ≤ (i : Int)) = True := by simp
    by_cases e : i < f.l.length
    · have g1 : ((i : Int) < (f.l.length : Int)) = True := by simp; omega
      obtain ⟨u, hu⟩ : ∃ u, f.l[i]? = some u := ⟨f.l[i], List.getElem?_eq_getElem e⟩
      obtain ⟨ab, hab⟩ : ∃ ab, m[i]? = some ab := ⟨m[i]'(by omega), List.getElem?_eq_getElem _⟩
      obtain rfl := hpur i u ab hu hab (Nat.le_refl _)
      have hfl := oFlat_len hm
      have a2 := oFlat_at hu hab (j := 2) (by decide)
      have a3 := oFlat_at hu hab (j := 3) (by decide)
      have a2 : (oRows f.l m).flatten[i * 6 + 2]? = some (.view (byteRows u.d)) := a2
      have a3 : (oRows f.l m).flatten[i * 6 + 3]? = some (.view (intRows u.pins)) := a3
      have w2 := drop_head a2
      have w3 := drop_head a3
      have w4 := fun y => drop_set a2 (j := i * 6 + 3) (by omega) y
      have w5 := fun y => drop_set a3 (j := i * 6 + 2) (by omega) y
      have b2 : (i * 6 + 2 + 1 ≤ (oRows f.l m).flatten.length) = True := by rw [hfl]; simp; omega
      have b3 : (i * 6 + 3 + 1 ≤ (oRows f.l m).flatten.length) = True := by rw [hfl]; simp; omega
      have hcb := @clH_b
      have q0 : ((0 : Nat) == k) = false := by rw [beq_eq_false_iff_ne]; omega
      have q2 : ((2 : Nat) == k) = false := by rw [beq_eq_false_iff_ne]; omega
      have p0 : ∀ r, ((0 : Nat) == clN k r) = false := fun r => by rw [beq_eq_false_iff_ne]; have := clN_le k r; omega
      have p2 : ∀ r, ((2 : Nat) == clN k r) = false := fun r => by rw [beq_eq_false_iff_ne]; have := clN_le k r; omega
      have hdu := hd u (List.mem_of_getElem? hu)
      have tE := aI uU <| aI g1 <| aI g0 <| aI hw <| aI e0 <| aI e1 <| aI e2 <| aI w2 <| aI w3 <| aI w4 <| aI w5 <| aI b2 <| aI b3 <| aI hcb <| aI q0 <| aI q2 <| aI p0 <| aI p2 <| aI set_len <| tfF60.down; repeat' first | (refine Red.h ?_) | ((with_reducible apply w_live (lvAt [[0], [1, 2], [1, 2], [1, 2, 11, 12], [1, 2, 11, 12], [1, 2, 3, 11, 12], [1, 2, 4, 11, 12], [1, 2, 11, 12], [1, 2]])); (focus (simp only [lvAt_zero, lvAt_succ]; rfl)); exact zLv) | ((with_reducible first | apply wz tkF6 | apply wr_z tkF6); exact zZ; decide) | ((with_reducible first | apply m_calle); exact zU; exact zV; exact zVs; exact zAs; (focus (first | exact ⟨_, Tryz.func42, rfl, rfl⟩ | exact ⟨_, Tryz.func76, rfl, rfl⟩)); (focus (with_unfolding_all first | exact ac42 u.d hdu.1 _ _ | exact ac76 u.pins hdu.2 _ _)); decide) | ((with_reducible first | apply w_ift'); exact zV; exact zU) | ((with_reducible first | apply fm_nil | apply fm_cons)) | ((with_reducible apply m_next); exact zU) | ((with_reducible first | apply m_v tkF6); exact zU; exact zZ; decide) | ((with_reducible first | apply m_x tkF6); exact zU; (focus (decide +kernel)); exact zZ; decide) | ((with_reducible first | apply m_xo tkF6); exact zU; exact zZ; decide) | ((with_reducible apply m_nilO); exact zU; (focus (simp only [List.reverse_cons, List.reverse_nil, List.nil_append, List.cons_append]; rfl)); (focus (simp only [OwedAll, Owed, Nat.reduceAdd]; (repeat' apply And.intro); all_goals first | exact trivial | (intro h; exact absurd h (by decide +kernel)) | (intro _; exact zW)))) | ((with_reducible first | apply m_chg0); exact zU; (focus ((with_reducible apply c_store tkF6); exact zV; exact zV; (focus ((with_reducible apply hv1); exact zC1; exact zC2; exact zT; exact zU; exact zH; exact zTd; exact zU))))) | ((with_reducible apply w_drawN (id := 6) [6, 11, 14, 17] [([6, 11, 14, 17], [2, 3, 4, 5, 6, 7, 8, 9, 10, 11, 0, 12, 13, 14, 1, 15, 16, 17])] mixed); (focus (decide +kernel))) | fail
      all_goals try clear tE
      all_goals
        have hnew : TwI f (i + 1) (m.set i (ownR k 1 (byteRows u.d), ownR (clN k (byteRows u.d)) 1 (intRows u.pins))) (upd (clH (clH H k 5 (byteRows u.d)) (clN k (byteRows u.d)) 3 (intRows u.pins)) 2 (some (.cells (oRows f.l (m.set i (ownR k 1 (byteRows u.d), ownR (clN k (byteRows u.d)) 1 (intRows u.pins)))).flatten 74))) (clN (clN k (byteRows u.d)) (intRows u.pins)) := tw_step ⟨hi, hm, e0, e1, e2, hk, hown, hpur, htop⟩ hu
        refine ⟨(i + 1, m.set i (ownR k 1 (byteRows u.d), ownR (clN k (byteRows u.d)) 1 (intRows u.pins))), by simp only; omega, ?_, rfl, ?_⟩
        · first | (rw [← oFlat_set2 hu hab] at hnew; simpa only [upd_upd] using hnew) | (rw [← oFlat_set3 hu hab] at hnew; simpa only [upd_upd] using hnew)
        · (have tE := aI uU <| hw; simp only [fitsT, List.take_zero, List.length_nil, sp_cons, sp_nil, upd_b, Nat.reduceBEq, cond_true, cond_false, args0_zero, args0_succ, args0_nil, tE]; repeat' first | exact trivial | apply aI | exact Sub.refl _ | exact Sub.cap)
    · have g1 : ((i : Int) < (f.l.length : Int)) = False := by simp; omega
      have tE := aI uU <| aI g1 <| aI g0 <| aI hw <| aI e0 <| aI e1 <| aI e2 <| tfF60.down; repeat' first | (refine Red.h ?_) | ((with_reducible first | apply wz tkF6 | apply wr_z tkF6); exact zZ; decide) | ((with_reducible first | apply w_store tkF6); exact zV; exact zV; exact zS) | ((with_reducible first | apply w_iff'); exact zV; exact zU) | ((with_reducible apply w_ret); (repeat refine Red.h ?_); (with_reducible first | apply donef_ret tkF6 | apply doneA_ret tkF6); exact zT; exact zD) | fail
      all_goals try clear tE
      obtain ⟨g, hown⟩ := hown
      refine ⟨_, rfl, _, rfl, .inr ⟨h0, 2, m, trivial, rfl, ?_, hm, g, fun j v ab hv hab => ?_⟩⟩
      · rw [upd_ne _ _ (by decide)]; exact e2
      · have := (List.getElem?_eq_some_iff.1 hv).1
        have h := hown j v ab hv hab (by omega)
        have hmv : ∀ q id b, (3 ≤ id ∧ g id = q) → H id = some b → ((True ∧ id ≠ 2) ∧ g id = q) ∧ upd H 1 (some (.cells [.slice 2 0 f.l.length none 6, .int .i64 f.h] 26)) id = some b := fun q id b h hb => ⟨⟨⟨trivial, by omega⟩, h.2⟩, by rw [upd_ne _ _ (by omega)]; exact hb⟩
        exact ⟨h.1.mv (hmv _), h.2.mv (hmv _)⟩
theorem ac40_nil (f : Fs) (h0 : f.l = []) : AC Tryz.prog 40 [.agg f.cells] (Lg.hl []) 0 (fun r H _ => ∃ x, r = .ret x ∧ ∃ a, x = .agg [a, .int .i64 f.h] ∧ OwnFz H (fun _ => True) f a) := by
  refine ac_of_w Tryz.func40 (c := _) rfl (Nat.le_of_ble_eq_true rfl) ?_
  rw [show Tryz.f40.ntmps = 37 from rfl]
  have h73 := pf75_nil
  have el : frRows f.l = [] := by rw [h0]; rfl
  have el' : frRows [] = [] := rfl
  rw [el'] at h73
  have tE := aI uU <| aI Fs.cells.eq_1 <| aI el <| tfF60.down; repeat' first | (refine Red.h ?_) | ((with_reducible apply l_box (d := 1)); exact zV; exact zU; decide) | ((with_reducible first | apply wz tkF6 | apply wr_z tkF6); exact zZ; decide) | ((with_reducible first | apply w_alloc tkF6); exact zT; decide) | ((with_reducible first | apply w_store tkF6); exact zV; exact zV; exact zS) | ((with_reducible first | apply wcall' | apply wr_call); exact zV; exact zVs; exact zAs; (focus (with_unfolding_all first | exact h73)); decide) | fail
  all_goals try clear tE
  refine w_once ?_
  have tE := aI uU <| aI Fs.cells.eq_1 <| aI el <| tfF60.down; repeat' first | (refine Red.h ?_) | ((with_reducible first | apply wz tkF6 | apply wr_z tkF6); exact zZ; decide) | ((with_reducible first | apply w_store tkF6); exact zV; exact zV; exact zS) | ((with_reducible first | apply w_iff'); exact zV; exact zU) | ((with_reducible apply w_ret); (repeat refine Red.h ?_); (with_reducible first | apply donef_ret tkF6 | apply doneA_ret tkF6); exact zT; exact zD) | fail
  all_goals try clear tE
  exact ⟨_, rfl, _, rfl, .inl ⟨h0, rfl⟩⟩
def shP (n : Nat) (ab : AV × AV) : AV × AV := (sh n ab.1, sh n ab.2)
theorem oRows_sh (n : Nat) : ∀ (l : List Fr) (m : List (AV × AV)), shL n (oRows l m).flatten = (oRows l (m.map (shP n))).flatten
  | [], m => by simp [oRows, shL]
  | x :: l, [] => by simp [oRows, shL]
  | x :: l, ab :: m => by
    have ih := oRows_sh n l m
    rw [shL_map] at ih ⊢
    show List.map (sh n) (oRow x ab ++ (oRows l m).flatten) = oRow x (shP n ab) ++ (oRows l (m.map (shP n))).flatten
    rw [List.map_append, ih]
    simp [oRow, shP, sh]
theorem ownFz_sh {n : Nat} {S : Nat → Prop} {H : Heap} {f : Fs} {a : AV} (h : OwnFz H S f a) : OwnFz (shH n H) (shS n S) f (sh n a) := by
  rcases h with ⟨h1, rfl⟩ | ⟨h1, id, m, h2, rfl, h3, h4, g, h5⟩
  · exact .inl ⟨h1, by rw [sh]⟩
  · refine .inr ⟨h1, n + id, m.map (shP n), shS_at h2, by rw [sh], ?_, by rw [List.length_map]; exact h4, fun x => g (x - n), fun j u ab hu hab => ?_⟩
    · rw [shH_at h3, oRows_sh]
    · rw [List.getElem?_map] at hab
      cases hm : m[j]? with
      | none => rw [hm] at hab; cases hab
      | some x =>
        rw [hm] at hab; cases hab
        obtain ⟨g1, g2⟩ := h5 j u x hu hm
        have hS : ∀ q k, shS n (fun j => (S j ∧ j ≠ id) ∧ g j = q) k → (shS n S k ∧ k ≠ n + id) ∧ g (k - n) = q := fun q k h => ⟨⟨⟨h.1, h.2.1.1⟩, fun e => h.2.1.2 (by omega)⟩, h.2.2⟩
        exact ⟨(own_sh g1).mono (hS _) (fun _ _ _ h => h), (own_sh g2).mono (hS _) (fun _ _ _ h => h)⟩
theorem OwnFz.mono {H H' : Heap} {S S' : Nat → Prop} {f : Fs} {a : AV} (hS : ∀ id, S id → S' id) (hs : ∀ id b, S id → H id = some b → H' id = some b) (h : OwnFz H S f a) : OwnFz H' S' f a := by
  rcases h with ⟨h1, h2⟩ | ⟨h1, id, m, h2, h3, h4, h5, g, h6⟩
  · exact .inl ⟨h1, h2⟩
  · exact .inr ⟨h1, id, m, hS _ h2, h3, hs _ _ h2 h4, h5, g, fun j u ab hu hab => ⟨(h6 j u ab hu hab).1.mono (fun k h => ⟨⟨hS _ h.1.1, h.1.2⟩, h.2⟩) (fun i b hi hb => hs i b hi.1.1 hb), (h6 j u ab hu hab).2.mono (fun k h => ⟨⟨hS _ h.1.1, h.1.2⟩, h.2⟩) (fun i b hi hb => hs i b hi.1.1 hb)⟩⟩
theorem OwnFz.flat {H : Heap} {S : Nat → Prop} {f : Fs} {a : AV} (h : OwnFz H S f a) : OwnF H S f a := by
  rcases h with h | ⟨h1, id, m, h2, h3, h4, h5⟩
  · exact .inl h
  · exact .inr ⟨h1, id, m, h2, h3, h4, h5.flat⟩
theorem OwnF.mono {H H' : Heap} {S S' : Nat → Prop} {f : Fs} {a : AV} (hS : ∀ id, S id → S' id) (hs : ∀ id b, S id → H id = some b → H' id = some b) (h : OwnF H S f a) : OwnF H' S' f a := by
  rcases h with ⟨h1, h2⟩ | ⟨h1, id, m, h2, h3, h4, h5, h6⟩
  · exact .inl ⟨h1, h2⟩
  · exact .inr ⟨h1, id, m, hS _ h2, h3, hs _ _ h2 h4, h5, fun j u ab hu hab => (h6 j u ab hu hab).mono (fun k h => ⟨hS _ h.1, h.2⟩) (fun i b hi hb => hs i b hi.1 hb)⟩
theorem OwnABs.flat {H : Heap} {S : Nat → Prop} : ∀ {l : List Fr} {m : List (AV × AV)}, OwnABs H S l m → OwnL H S (oRows l m).flatten (frRows l).flatten
  | [], [], _ => .nil
  | [], _ :: _, h => by have := h.1; simp at this
  | _ :: _, [], h => by have := h.1; simp at this
  | x :: l, ab :: m, h => by
    have h1 := h.2 0 x ab rfl rfl
    have ih := OwnABs.flat (l := l) (m := m) (H := H) (S := S) ⟨by have := h.1; simpa using this, fun j u v hu hv => h.2 (j + 1) u v (by simpa using hu) (by simpa using hv)⟩
    show OwnL H S (oRow x ab ++ (oRows l m).flatten) (Fr.cells x ++ (frRows l).flatten)
    exact OwnL.append (.cons (.int _ _) (.cons (.int _ _) (.cons h1.1 (.cons h1.2 (.cons (.bool _) (.cons (.bool _) .nil)))))) ih
theorem OwnF.own {H : Heap} {S : Nat → Prop} {f : Fs} {a : AV} (h : OwnF H S f a) : Own H S (.agg [a, .int .i64 f.h]) (.agg f.cells) := by
  refine OwnL.agg (.cons ?_ (.cons (.int _ _) .nil))
  rcases h with ⟨h1, rfl⟩ | ⟨h1, id, m, h2, rfl, h3, h4⟩
  · rw [h1]; exact .nothing
  · exact own_rows h2 h3 (frRows_len f.l) (frRows_row f.l) (h4.flat.mono (fun _ h => h.1) (fun _ _ _ h => h))
theorem cal40 : Callable Tryz.prog 40 := ⟨_, Tryz.func40, rfl, rfl⟩
theorem ac40_0 (f : Fs) (hl : f.l.length ≤ 1000000) (hd : ∀ x, x ∈ f.l → x.d.length ≤ 1000000 ∧ x.pins.length ≤ 1000000) : AC Tryz.prog 40 [.agg f.cells] (Lg.hl []) 0 (fun r H _ => ∃ x, r = .ret x ∧ ∃ a, x = .agg [a, .int .i64 f.h] ∧ OwnFz H (fun _ => True) f a) := by
  rcases Nat.eq_zero_or_pos f.l.length with h | h
  · exact ac40_nil f (List.eq_nil_of_length_eq_zero h)
  · exact ac40_some f h hl hd
/-- Twin, from any memory. -/
theorem ac40z (f : Fs) (hl : f.l.length ≤ 1000000) (hd : ∀ x, x ∈ f.l → x.d.length ≤ 1000000 ∧ x.pins.length ≤ 1000000) (H : Heap) (n : Nat) : AC Tryz.prog 40 [.agg f.cells] H n (fun r H' n' => n ≤ n' ∧ (∀ id b, H id = some b → H' id = some b) ∧ (∀ id, n' ≤ id → H' id = none) ∧ ∃ a, r = .ret (.agg [a, .int .i64 f.h]) ∧ OwnFz H' (n ≤ ·) f a) := by
  refine (ac_any (R := fun H x _ => ∃ a, x = .agg [a, .int .i64 f.h] ∧ OwnFz H (fun _ => True) f a) (args_1 (fsa_pur f)) (ac40_0 f hl hd) H n).mono ?_
  rintro r H' n' ⟨h1, h2, h3, x, H0, n0, rfl, ⟨a, rfl, ha⟩, _, _, h5⟩
  exact ⟨h1, h2, h3, sh n a, by simp only [sh, shL], (ownFz_sh (n := n) ha).mono (fun _ h => h.1) (fun id b _ hb => h5 id b hb)⟩
theorem ac40 (f : Fs) (hl : f.l.length ≤ 1000000) (hd : ∀ x, x ∈ f.l → x.d.length ≤ 1000000 ∧ x.pins.length ≤ 1000000) (H : Heap) (n : Nat) : AC Tryz.prog 40 [.agg f.cells] H n (fun r H' n' => n ≤ n' ∧ (∀ id b, H id = some b → H' id = some b) ∧ (∀ id, n' ≤ id → H' id = none) ∧ ∃ a, r = .ret (.agg [a, .int .i64 f.h]) ∧ OwnF H' (n ≤ ·) f a) :=
  (ac40z f hl hd H n).mono (by rintro r H' n' ⟨h1, h2, h3, a, h4, h5⟩; exact ⟨h1, h2, h3, a, h4, h5.flat⟩)
theorem nf40 (f : Fs) (hl : f.l.length ≤ 1000000) (hd : ∀ x, x ∈ f.l → x.d.length ≤ 1000000 ∧ x.pins.length ≤ 1000000) : NF Tryz.prog 40 [.agg f.cells] (fun r => r = .agg f.cells) :=
  nf_of_0 cal40 (args_1 (fsa_pur f)) ((ac40_0 f hl hd).mono (by rintro r H n ⟨x, rfl, a, rfl, ha⟩; exact ⟨_, _, rfl, ha.flat.own, rfl⟩))
end Go.Proofs.YtlmighkbeacjnaaGreatDoor


open Go Go.Lg
set_option linter.unusedSimpArgs false
set_option linter.unusedVariables false
set_option maxHeartbeats 4000000
set_option maxRecDepth 20000
namespace Go.Proofs.YtlmighkbeacjnaaGreatDoor
theorem own_ints {H : Heap} {S : Nat → Prop} {id len : Nat} {b : List Int} (hS : S id) (hH : H id = some (.cells (intRows b).flatten 3)) (hl : (intRows b).length = len) : Own H S (.slice id 0 len none 1) (.view (intRows b)) :=
  own_rows hS hH hl (intRows_row b) ⟨rfl, fun i x y h1 h2 => by rw [h1] at h2; cases h2; exact (intRows_flat b x (List.mem_of_getElem? h1)).own⟩
/-- What the reference's Twin holds in its loop. -/
def outT (i o : Nat) : AV := if i = 0 then .empty else .slice o 0 i none 6
end Go.Proofs.YtlmighkbeacjnaaGreatDoor


open Go Go.Lg
set_option linter.unusedSimpArgs false
set_option linter.unusedVariables false
set_option maxHeartbeats 4000000
set_option maxRecDepth 20000
namespace Go.Proofs.YtlmighkbeacjnaaGreatDoor
theorem tkF8 : TOK Tryz.prog (tyOf Tryz.prog) := tok Tryz.prog
def tfF80 := PLift.up (aI ty3 <| aI ty4 <| aI ty5 <| aI ty24 <| aI ty26 <| aI ty28 <| aI ty72 <| aI ty74 <| Tryz.results154)
def tfF81 := PLift.up (aI ty3 <| aI ty4 <| aI ty5 <| aI ty23 <| aI ty24 <| aI ty26 <| aI ty28 <| aI ty34 <| aI ty72 <| aI ty74 <| Tryz.results101)
theorem round_pur (f : Fs) : Pur (.func (.func 154) [] [.vptr f.cells]) := .func (fun _ h => (nomatch h)) (args_1 (.vptr (fs_pur f)))
theorem pf138 (f : Fs) : PF Tryz.prog 138 [.agg f.cells] (fun r => r = .func (.func 154) [] [.vptr f.cells]) := by
  refine pf_of_w0 Tryz.func138 (c := _) rfl rfl (Nat.le_of_ble_eq_true rfl) (args_1 (fsa_pur f)) ?_
  rw [show Tryz.f138.ntmps = 4 from rfl]
  have hp := round_pur f
  have hp' : Pur (.func (.func 154) [] [.vptr [.view (frRows f.l), .int .i64 f.h]]) := hp
  have tE := aI uU <| aI Fs.cells.eq_1 <| aI ty3 <| aI ty4 <| aI ty5 <| aI ty24 <| aI ty26 <| aI ty28 <| aI ty72 <| aI ty74 <| Tryz.results138; repeat' first | (refine Red.h ?_) | ((with_reducible first | apply wz tkF8 | apply wr_z tkF8); exact zZ; decide) | ((with_reducible apply w_ret); (repeat refine Red.h ?_); (with_reducible apply done_ret tkF8); exact zT; exact zD; exact zX) | fail
  all_goals try clear tE
  rfl
theorem cat_rem {h n i : Nat} (hn : 0 < n) : Int.tmod ((h : Int) + i) n = ((cat h n i : Nat) : Int) := by
  unfold cat
  rw [show ((h : Int) + i) = ((h + i : Nat) : Int) by omega]
  rfl
theorem ac154 (f : Fs) (h : Nat) (hh : f.h = h) (hl0 : 0 < f.l.length) (hl : f.l.length ≤ 1000000) (hhl : h < f.l.length) (id k : Nat) (H0 : Heap) (J S : Nat → Heap → Nat → Prop)
    (hround : ∀ i H n, i < 2 * f.l.length → J i H n → YC Tryz.prog id [.int .i64 ((cat h f.l.length i : Nat) : Int)] H n (fun b H' n' => (b = true ∧ J (i + 1) H' n') ∨ (b = false ∧ S i H' n')))
    (h0 : J 0 H0 k) : AC Tryz.prog 154 [.yieldf id, .vptr f.cells] H0 k (fun r H n => r = .ret (.tuple []) ∧ (J (2 * f.l.length) H n ∨ ∃ i, S i H n)) := by
  refine ac_of_wd Tryz.func154 (c := _) rfl (Nat.le_of_ble_eq_true rfl) ?_
  rw [show Tryz.f154.ntmps = 23 from rfl]
  have e1 : IntKind.i64.wrap (2 * (f.l.length : Int)) = ((2 * f.l.length : Nat) : Int) := by rw [wrap64 (by omega) (by omega)]; omega
  have tE := aI uU <| aI Fs.cells.eq_1 <| aI frRows_len <| aI e1 <| tfF80.down; repeat' first | (refine Red.h ?_) | ((with_reducible first | apply wz tkF8 | apply wr_z tkF8); exact zZ; decide) | fail
  all_goals try clear tE
  refine w_loop (fun kk σ => ∃ i : Nat, kk + i = 2 * f.l.length ∧ J i σ.h σ.n ∧ σ.tm 0 = .yieldf id ∧ σ.tm 1 = .vptr f.cells ∧ σ.tm 7 = .int .i64 ((2 * f.l.length : Nat) : Int) ∧ σ.tm 8 = .int .i64 (i : Int) ∧ σ.df = []) (2 * f.l.length) ⟨0, rfl, h0, rfl, rfl, rfl, rfl, rfl⟩ ?_
  rintro kk ⟨tm, H, nn, df⟩ ⟨i, hk, hJ, t0, t1, t7, t8, rfl⟩
  simp only at t0 t1 t7 t8 hJ
  by_cases e : i < 2 * f.l.length
  · have g1 : ((i : Int) < ((2 * f.l.length : Nat) : Int)) = True := by simp; omega
    have hw : IntKind.i64.wrap ((i : Int) + 1) = ((i + 1 : Nat) : Int) := by rw [wrap64 (by omega) (by omega)]; rfl
    have hw2 : IntKind.i64.wrap (f.h + (i : Int)) = (h : Int) + i := by rw [hh, wrap64 (by omega) (by omega)]
    have hy := hround i H nn e hJ
    have hne : ((f.l.length : Int) = 0) = False := eq_false (by omega)
    have hrem := cat_rem (h := h) (n := f.l.length) (i := i) hl0
    have tE := aI uU <| aI t0 <| aI t1 <| aI t7 <| aI t8 <| aI g1 <| aI hw <| aI hw2 <| aI hne <| aI hrem <| aI Fs.cells.eq_1 <| aI frRows_len <| tfF80.down; repeat' first | (refine Red.h ?_) | ((with_reducible first | apply wz tkF8 | apply wr_z tkF8); exact zZ; decide) | ((with_reducible first | apply w_ift'); exact zV; exact zU) | fail
    all_goals try clear tE
    refine wl_yield (by simp only [evo, t0, sp_cons, sp_nil, upd_b, Nat.reduceBEq, cond_true, cond_false, args0_zero, args0_succ, args0_nil]; rfl) (by simp only [evs, evo, sp_cons, sp_nil, upd_b, Nat.reduceBEq, cond_true, cond_false, args0_zero, args0_succ, args0_nil]; rfl) (by exact hy) (by decide) ?_
    rintro b H' n' (⟨rfl, hJ'⟩ | ⟨rfl, hS⟩)
    · have tE := aI uU <| aI t0 <| aI t1 <| aI t7 <| aI t8 <| aI g1 <| aI hw <| aI hw2 <| tfF80.down; repeat' first | (refine Red.h ?_) | ((with_reducible first | apply wz tkF8 | apply wr_z tkF8); exact zZ; decide) | ((with_reducible first | apply w_iff'); exact zV; exact zU) | fail
      all_goals try clear tE
      have hk1 : kk - 1 < kk := by omega
      have hk2 : kk - 1 + (i + 1) = 2 * f.l.length := by omega
      exact ⟨kk - 1, hk1, i + 1, hk2, hJ', by simp only [sp_cons, sp_nil, upd_b, Nat.reduceBEq, cond_true, cond_false, args0_zero, args0_succ, args0_nil, t0], by simp only [sp_cons, sp_nil, upd_b, Nat.reduceBEq, cond_true, cond_false, args0_zero, args0_succ, args0_nil, t1], by simp only [sp_cons, sp_nil, upd_b, Nat.reduceBEq, cond_true, cond_false, args0_zero, args0_succ, args0_nil, t7], by simp only [sp_cons, sp_nil, upd_b, Nat.reduceBEq, cond_true, cond_false, args0_zero, args0_succ, args0_nil, t8, hw], rfl⟩
    · have tE := aI uU <| aI t0 <| aI t1 <| aI t7 <| aI t8 <| aI g1 <| tfF80.down; repeat' first | (refine Red.h ?_) | ((with_reducible first | apply wz tkF8 | apply wr_z tkF8); exact zZ; decide) | ((with_reducible first | apply w_ift'); exact zV; exact zU) | fail
      all_goals try clear tE
      refine w_ret ?_
      exact ⟨trivial, .tuple [], resv_of (xs := []) tkF8 rfl, rfl, .inr ⟨_, hS⟩⟩
  · obtain rfl : i = 2 * f.l.length := by omega
    have g1 : (((2 * f.l.length : Nat) : Int) < ((2 * f.l.length : Nat) : Int)) = False := by simp
    have tE := aI uU <| aI t0 <| aI t1 <| aI t7 <| aI t8 <| aI g1 <| tfF80.down; repeat' first | (refine Red.h ?_) | ((with_reducible first | apply wz tkF8 | apply wr_z tkF8); exact zZ; decide) | ((with_reducible first | apply w_iff'); exact zV; exact zU) | fail
    all_goals try clear tE
    exact ⟨trivial, .tuple [], resv_of (xs := []) tkF8 rfl, rfl, .inl hJ⟩
/-- Where the clock stops: behind so many steps. -/
def stops (l : List Fr) (h i : Nat) : Bool := match l[cat h l.length i]? with
  | some x => !skip x && !(seen l h i x).rf
  | none => false
def firstStop (l : List Fr) (h : Nat) : Nat → Nat → Option Nat
  | 0, _ => none
  | k + 1, i => if stops l h i = true then some i else firstStop l h k (i + 1)
def vic (l : List Fr) (h : Nat) : Option Nat := firstStop l h (2 * l.length) 0
theorem past_go {l : List Fr} {h i : Nat} {x : Fr} (hp : Past l h i) (hx : l[cat h l.length i]? = some x) (hs : stops l h i = false) : Past l h (i + 1) := by
  simp only [stops, hx] at hs
  cases hk : skip x with
  | true => exact past_skip hp hx hk
  | false => rw [hk] at hs; exact past_rf hp hx hk (by simpa using hs)
theorem first_past {l : List Fr} {h : Nat} (hn : 0 < l.length) : ∀ {k i : Nat}, Past l h i → (∀ j, firstStop l h k i = some j → Past l h j ∧ stops l h j = true ∧ i ≤ j ∧ j < i + k) ∧ (firstStop l h k i = none → Past l h (i + k))
  | 0, i, hp => ⟨fun j hj => (by cases hj), fun _ => hp⟩
  | k + 1, i, hp => by
    obtain ⟨x, hx⟩ : ∃ x, l[cat h l.length i]? = some x := ⟨_, List.getElem?_eq_getElem (cat_lt hn)⟩
    by_cases hs : stops l h i = true
    · refine ⟨fun j hj => ?_, fun hj => ?_⟩
      · rw [firstStop, if_pos hs] at hj; cases hj; exact ⟨hp, hs, Nat.le_refl _, by omega⟩
      · rw [firstStop, if_pos hs] at hj; cases hj
    · have ih := first_past (k := k) hn (past_go hp hx (by simpa using hs))
      refine ⟨fun j hj => ?_, fun hj => ?_⟩
      · rw [firstStop, if_neg hs] at hj
        obtain ⟨h1, h2, h3, h4⟩ := ih.1 j hj
        exact ⟨h1, h2, by omega, by omega⟩
      · rw [firstStop, if_neg hs] at hj
        have := ih.2 hj
        rwa [show i + 1 + k = i + (k + 1) by omega] at this
theorem swept_at {l : List Fr} {h i : Nat} {x : Fr} (hx : l[cat h l.length i]? = some x) : (swept l h i)[cat h l.length i]? = some (seen l h i x) := swept_get hx
theorem seen_k (l : List Fr) (h i : Nat) (x : Fr) : (seen l h i x).k = x.k ∧ (seen l h i x).p = x.p ∧ (seen l h i x).d = x.d ∧ (seen l h i x).pins = x.pins ∧ (seen l h i x).dt = x.dt := by
  unfold seen
  split
  · exact ⟨rfl, rfl, rfl, rfl, rfl⟩
  · exact ⟨rfl, rfl, rfl, rfl, rfl⟩
theorem seen_skip' (l : List Fr) (h i : Nat) (x : Fr) : skip (seen l h i x) = skip x := by
  obtain ⟨h1, _, _, h4, _⟩ := seen_k l h i x
  simp only [skip, pinned, h1, h4]
/-- A frame's own cells behind the clock: its Ref is turned. -/
theorem oFlat_set4 {l : List Fr} {m : List (AV × AV)} {i : Nat} {u v : Fr} {ab : AV × AV} (h : l[i]? = some u) (h' : m[i]? = some ab) (hv : v = { u with rf := v.rf }) : (oRows l m).flatten.set (i * 6 + 4) (.bool v.rf) = (oRows (l.set i v) m).flatten := by
  rw [flat_set (oRows_row l m) _ (oRows_at h h') (by decide)]
  congr 1
  refine List.ext_getElem? fun j => ?_
  rw [List.getElem?_set, oRows, oRows, List.getElem?_zipWith, List.getElem?_zipWith, List.getElem?_set]
  by_cases e : i = j
  · subst e
    have h1 := (List.getElem?_eq_some_iff.1 h).1
    have h2 := (List.getElem?_eq_some_iff.1 h').1
    simp only [if_true, List.length_zipWith, h', h1, if_pos (show i < min l.length m.length by omega)]
    rw [hv]; rfl
  · simp only [if_neg e]
/-- What Victim's loop holds. -/
structure VcI (f : Fs) (h b k0 : Nat) (m : List (AV × AV)) (i : Nat) (at_ : Int) (lb : LoopB) (H : Heap) : Prop where
  h0 : H 0 = some (.cells [.slice b 0 f.l.length none 6, .int .i64 f.h] 26)
  h1 : H 1 = some (.cells [.int .i64 at_] 3)
  hb : H b = some (.cells (oRows (swept f.l h i) m).flatten 74)
  own : OwnABs H (fun j => 2 ≤ j ∧ j ≠ b ∧ j < k0) f.l m
  hk : H k0 = some .deferred
  hl : H (k0 + 1) = some (.loop lb)
theorem swept_pins {l : List Fr} {h i j : Nat} {x : Fr} (hx : l[j]? = some x) : ∃ y, (swept l h i)[j]? = some y ∧ y.d = x.d ∧ y.pins = x.pins := by
  refine ⟨_, swept_get hx, ?_⟩
  split
  · exact ⟨rfl, rfl⟩
  · exact ⟨rfl, rfl⟩
theorem unref_seen (l : List Fr) (h i : Nat) (x : Fr) : unref (seen l h i x) = unref x := by
  unfold seen
  split <;> rfl
/-- One round of Victim's loop: nothing is taken. -/
theorem vc_skip {f : Fs} {h b k0 : Nat} {m : List (AV × AV)} {i : Nat} {a : Int} {lb : LoopB} {H : Heap} {x : Fr} (hI : VcI f h b k0 m i a lb H) (hx : f.l[cat h f.l.length i]? = some x) (hs : skip x = true) : VcI f h b k0 m (i + 1) a lb H :=
  ⟨hI.h0, hI.h1, by rw [swept_skip hx hs]; exact hI.hb, hI.own, hI.hk, hI.hl⟩
theorem vc_rf {f : Fs} {h b k0 : Nat} {m : List (AV × AV)} {i : Nat} {a : Int} {lb : LoopB} {H : Heap} {x : Fr} {ab : AV × AV} (hI : VcI f h b k0 m i a lb H) (hx : f.l[cat h f.l.length i]? = some x) (hab : m[cat h f.l.length i]? = some ab) (hs : skip x = false) (hb2 : 2 ≤ b) (hbk : b < k0) :
    VcI f h b k0 m (i + 1) a lb (upd H b (some (.cells ((oRows (swept f.l h i) m).flatten.set (cat h f.l.length i * 6 + 4) (.bool false)) 74))) := by
  refine ⟨by rw [upd_ne _ _ (by omega)]; exact hI.h0, by rw [upd_ne _ _ (by omega)]; exact hI.h1, ?_, ⟨hI.own.1, fun j u v hu hv => ?_⟩, by rw [upd_ne _ _ (by omega)]; exact hI.hk, by rw [upd_ne _ _ (by omega)]; exact hI.hl⟩
  · have := oFlat_set4 (v := unref (seen f.l h i x)) (swept_at hx) hab rfl
    rw [upd_same, swept_rf hx hs, ← unref_seen f.l h i x, ← this]; rfl
  · have := hI.own.2 j u v hu hv
    exact this.mono (fun _ h => h) (fun id c hid hc => by rw [upd_ne _ _ (by omega)]; exact hc)
theorem vc_mv {f : Fs} {h b k0 : Nat} {m : List (AV × AV)} {i : Nat} {a : Int} {lb lb' : LoopB} {H H' : Heap} (hI : VcI f h b k0 m i a lb H) (hb2 : 2 ≤ b) (hbk : b < k0) (hs : ∀ id, id ≤ k0 → H' id = H id) (hl : H' (k0 + 1) = some (.loop lb')) : VcI f h b k0 m i a lb' H' :=
  ⟨by rw [hs 0 (by omega)]; exact hI.h0, by rw [hs 1 (by omega)]; exact hI.h1, by rw [hs b (by omega)]; exact hI.hb, ⟨hI.own.1, fun j u v hu hv => (hI.own.2 j u v hu hv).mono (fun _ h => h) (fun id c hid hc => by rw [hs id (by omega)]; exact hc)⟩, by rw [hs k0 (by omega)]; exact hI.hk, hl⟩
theorem vc_at {f : Fs} {h b k0 : Nat} {m : List (AV × AV)} {i : Nat} {a a' : Int} {lb : LoopB} {H : Heap} (hI : VcI f h b k0 m i a lb H) (hb2 : 2 ≤ b) (hbk : b < k0) : VcI f h b k0 m i a' lb (upd H 1 (some (.cells [.int .i64 a'] 3))) :=
  ⟨by rw [upd_ne _ _ (by omega)]; exact hI.h0, upd_same _ _ _, by rw [upd_ne _ _ (by omega)]; exact hI.hb, ⟨hI.own.1, fun j u v hu hv => (hI.own.2 j u v hu hv).mono (fun _ h => h) (fun id c hid hc => by rw [upd_ne _ _ (by omega)]; exact hc)⟩, by rw [upd_ne _ _ (by omega)]; exact hI.hk, by rw [upd_ne _ _ (by omega)]; exact hI.hl⟩
theorem ac101_some (c : Cf) (f : Fs) (hl : f.l.length ≤ 1000000) (hd : ∀ x, x ∈ f.l → x.d.length ≤ 1000000 ∧ x.pins.length ≤ 1000000) (hok : okF c f = true) : AC Tryz.prog 101 [.agg c.cells, .agg f.cells] (Lg.hl []) 0 (fun r H _ => ∃ x, r = .ret x ∧
    match vic f.l f.h.toNat with
    | none => x = .tuple [.agg [.empty, .int .i64 0], .int .i64 0, .int .i64 250]
    | some i => ∃ a, x = .tuple [.agg [a, .int .i64 (((cat f.h.toNat f.l.length i + 1) % f.l.length : Nat) : Int)], .int .i64 (cat f.h.toNat f.l.length i : Nat), .int .i64 0] ∧ OwnF H (fun _ => True) ⟨swept f.l f.h.toNat i, (((cat f.h.toNat f.l.length i + 1) % f.l.length : Nat) : Int)⟩ a) := by
  have hs : okS c f = true := by simp only [okF, Bool.and_eq_true] at hok; exact hok.1
  have ev : eF c f = 0 := by simp [eF, hok]
  simp only [okS, Bool.and_eq_true, decide_eq_true_eq] at hs
  obtain ⟨⟨⟨hg, hlen⟩, hh0⟩, hh1⟩ := hs
  obtain ⟨h, hh⟩ : ∃ h : Nat, f.h = h := ⟨f.h.toNat, by omega⟩
  have htn : f.h.toNat = h := by omega
  rw [htn]
  have hl0 : 0 < f.l.length := by omega
  have hhl : h < f.l.length := by omega
  have h11 := pf43 c f hl (fun x hx => (hd x hx).2)
  have hrp := round_pur f
  have hrp' : Pur (.func (.func 154) [] [.vptr [.view (frRows f.l), .int .i64 f.h]]) := hrp
  refine ac_of_wd Tryz.func101 (c := _) rfl (Nat.le_of_ble_eq_true rfl) ?_
  rw [show Tryz.f101.ntmps = 59 from rfl]
  have tE := aI uU <| aI Cf.cells.eq_1 <| aI Fs.cells.eq_1 <| aI ev <| tfF81.down; repeat' first | (refine Red.h ?_) | ((with_reducible first | apply wz tkF8 | apply wr_z tkF8); exact zZ; decide) | ((with_reducible first | apply w_alloc tkF8); exact zT; decide) | fail
  all_goals try clear tE
  refine w_scope' ?_
  have tE := aI uU <| aI Cf.cells.eq_1 <| aI Fs.cells.eq_1 <| aI ev <| tfF81.down; repeat' first | (refine Red.h ?_) | ((with_reducible first | apply wz tkF8 | apply wr_z tkF8); exact zZ; decide) | ((with_reducible first | apply wcall' | apply wr_call); exact zV; exact zVs; exact zAs; (focus (with_unfolding_all first | exact h11)); decide) | ((with_reducible first | apply w_iff'); exact zV; exact zU) | fail
  all_goals try clear tE
  (have tE := aI uU <| aI Cf.cells.eq_1 <| Fs.cells.eq_1; (with_reducible apply wacall); exact zV; exact zVs; exact zAs; exact cal40; (focus (with_unfolding_all exact ac40 f hl hd _ _)); decide; clear tE)
  rintro r H' k0 ⟨hn', hold, htop, a, rfl, hown⟩
  have hk0 : 2 ≤ k0 := hn'
  have e0 := hold 0 _ rfl
  have e1 := hold 1 _ rfl
  rcases hown with ⟨hz, _⟩ | ⟨_, b, m, hb2, rfl, hbH, hm⟩
  · rw [hz] at hl0; cases hl0
  have hbk : b < k0 := by
    rcases Nat.lt_or_ge b k0 with hx | hx
    · exact hx
    · rw [htop b hx] at hbH; cases hbH
  have hb2 : 2 ≤ b := hb2
  have tE := aI uU <| aI Cf.cells.eq_1 <| aI Fs.cells.eq_1 <| aI e0 <| aI e1 <| tfF81.down; repeat' first | (refine Red.h ?_) | ((with_reducible first | apply wz tkF8 | apply wr_z tkF8); exact zZ; decide) | ((with_reducible first | apply w_store tkF8); exact zV; exact zV; exact zS) | ((with_reducible first | apply wcall' | apply wr_call); exact zV; exact zVs; exact zAs; (focus (with_unfolding_all first | exact pf138 f)); decide) | fail
  all_goals try clear tE
  refine w_cutT [(4, .ptr 0 0), (5, .ptr 1 0), (6, .int .i64 0), (20, .func (.func 154) [] [.vptr f.cells])] ?_ ?_
  · (have tE := uU; simp only [fitsT, List.take_zero, List.length_nil, sp_cons, sp_nil, upd_b, Nat.reduceBEq, cond_true, cond_false, args0_zero, args0_succ, args0_nil, tE]; repeat' first | exact trivial | apply aI | exact Sub.refl _ | exact Sub.cap)
  refine w_rangeT (g := 154) (first := []) (cap := [.vptr f.cells]) (R := fun r H n => r = .ret (.tuple []) ∧ ∃ lb : LoopB, (vic f.l h = none ∧ lb.state = .ready ∧ lb.pending = none ∧ VcI f h b k0 m (2 * f.l.length) (-1) lb H) ∨ (∃ i, vic f.l h = some i ∧ lb.state = .done ∧ lb.pending = some (.exit 0) ∧ VcI f h b k0 m i (cat h f.l.length i : Nat) lb H)) rfl ⟨_, Tryz.func154, rfl, rfl⟩ ?_ ?_
  · intro lb hlb
    have hst : lb.state = .ready := by rw [hlb]
    have hpe : lb.pending = none := by rw [hlb]
    have hI0 : VcI f h b k0 m 0 (-1) lb (upd (upd (upd (upd H' 0 (some (.cells [.slice b 0 f.l.length none 6, .int .i64 f.h] 26))) 1 (some (.cells [.int .i64 (-1)] 3))) k0 (some .deferred)) (k0 + 1) (some (.loop lb))) := by
      refine ⟨by rw [upd_ne _ _ (by omega), upd_ne _ _ (by omega)]; rfl, by rw [upd_ne _ _ (by omega), upd_ne _ _ (by omega)]; rfl, ?_, ⟨hm.1, fun j u v hu hv => ?_⟩, by rw [upd_ne _ _ (by omega), upd_same], upd_same _ _ _⟩
      · rw [upd_ne _ _ (by omega), upd_ne _ _ (by omega), upd_ne _ _ (by omega), upd_ne _ _ (by omega), swept_zero]; exact hbH
      · have hmv : ∀ id c, (2 ≤ id ∧ id ≠ b) → H' id = some c → (2 ≤ id ∧ id ≠ b ∧ id < k0) ∧ (upd (upd (upd (upd H' 0 (some (.cells [.slice b 0 f.l.length none 6, .int .i64 f.h] 26))) 1 (some (.cells [.int .i64 (-1)] 3))) k0 (some .deferred)) (k0 + 1) (some (.loop lb))) id = some c := fun id c hid hc => by
          have hlt : id < k0 := by
            rcases Nat.lt_or_ge id k0 with hx | hx
            · exact hx
            · rw [htop id hx] at hc; cases hc
          refine ⟨⟨hid.1, hid.2, hlt⟩, ?_⟩
          rw [upd_ne _ _ (by omega), upd_ne _ _ (by omega), upd_ne _ _ (by omega), upd_ne _ _ (by omega)]; exact hc
        have := hm.2 j u v hu hv
        exact ⟨this.1.mv hmv, this.2.mv hmv⟩
    refine (ac154 f h hh hl0 hl hhl (k0 + 1) (k0 + 2) _ (fun i H n => firstStop f.l h (2 * f.l.length - i) i = vic f.l h ∧ VcI f h b k0 m i (-1) lb H) (fun i H n => vic f.l h = some i ∧ VcI f h b k0 m i (cat h f.l.length i : Nat) (lb.st .done (some (.exit 0))) H) ?_ ⟨rfl, hI0⟩).mono ?_
    · rintro i H n hi ⟨hfs, hI⟩
      obtain ⟨x, hx⟩ : ∃ x, f.l[cat h f.l.length i]? = some x := ⟨_, List.getElem?_eq_getElem (cat_lt hl0)⟩
      have hcl : cat h f.l.length i < f.l.length := cat_lt hl0
      obtain ⟨ab, hab⟩ : ∃ ab, m[cat h f.l.length i]? = some ab := ⟨_, List.getElem?_eq_getElem (by rw [hm.1]; exact hcl)⟩
      have hy := swept_at (h := h) (i := i) hx
      have hfs' : firstStop f.l h (2 * f.l.length - i) i = if stops f.l h i = true then some i else firstStop f.l h (2 * f.l.length - (i + 1)) (i + 1) := by
        rw [show 2 * f.l.length - i = 2 * f.l.length - (i + 1) + 1 by omega]; rfl
      have hsk : stops f.l h i = (!skip x && !(seen f.l h i x).rf) := by simp only [stops, hx]
      obtain ⟨s1, s2, s3, s4, s5⟩ := seen_k f.l h i x
      have s6 := seen_skip' f.l h i x
      generalize seen f.l h i x = y at hy hsk s1 s2 s3 s4 s5 s6
      have hpd := (hd x (List.mem_of_getElem? hx)).2
      rw [← s4] at hpd
      have hoab := hI.own.2 _ x ab hx hab
      have hl49 : ∀ (X : Option Blk) (n : Nat), AC Tryz.prog 122 [.agg (oRow y ab)] (upd H (k0 + 1) X) n (fun r h' n' => r = .ret (.bool (pinned y)) ∧ h' = upd H (k0 + 1) X ∧ n' = n) := fun X n => by
        refine PF.look (pf122 y hpd) (.bool _) _ _ (.cons (FzL.agg (.cons (.pur (.int _ _)) (.cons (.pur (.int _ _)) (.cons (Own.fz (S := fun _ => True) (H := upd H (k0 + 1) X) ?_) (.cons (Own.fz (S := fun _ => True) (H := upd H (k0 + 1) X) ?_) (.cons (.pur (.bool _)) (.cons (.pur (.bool _)) .nil))))))) .nil)
        · rw [s3]; exact hoab.1.mono (fun _ _ => trivial) (fun id c hid hc => by rw [upd_ne _ _ (by omega)]; exact hc)
        · rw [s4]; exact hoab.2.mono (fun _ _ => trivial) (fun id c hid hc => by rw [upd_ne _ _ (by omega)]; exact hc)
      refine yc_of_w (lb := lb) hI.hl hst (by rw [hlb]; rfl) (by rw [hlb]; intro t ht; have ht : t ∈ [21] := ht; rcases List.mem_singleton.1 ht with rfl; exact (show 21 < 59 by decide)) ?_
      subst hlb
      show W Tryz.prog Round 59 n _ _ ⟨upd (sp _) 21 (.int .i64 ((cat h f.l.length i : Nat) : Int)), H, n, []⟩
      have tE := aI uU <| ty3; repeat' first | (refine Red.h ?_) | ((with_reducible first | apply wz tkF8 | apply wr_z tkF8); exact zZ; decide) | fail
      all_goals try clear tE
      refine ⟨rfl, rfl, hI.hl, ?_⟩
      show W Tryz.prog Round 59 n _ _ _
      have q0 : ((0 : Nat) == k0 + 1) = false := by rw [beq_eq_false_iff_ne]; omega
      have q1 : ((1 : Nat) == k0 + 1) = false := by rw [beq_eq_false_iff_ne]; omega
      have qb : (b == k0 + 1) = false := by rw [beq_eq_false_iff_ne]; omega
      have e0 := hI.h0
      have e1 := hI.h1
      have eb := hI.hb
      have hfl := oFlat_len (l := swept f.l h i) (m := m) (by rw [swept_len]; exact hm.1)
      rw [swept_len] at hfl
      have g0 : (0 ≤ ((cat h f.l.length i : Nat) : Int)) = True := by simp
      have g1 : (((cat h f.l.length i : Nat) : Int) < (f.l.length : Int)) = True := by simp; exact hcl
      have hrow := flat_row (oRows_row _ _) (oRows_at hy hab)
      have w0 := drop_head (oFlat_at hy hab (j := 0) (by decide))
      have w4 := drop_head (oFlat_at hy hab (j := 4) (by decide))
      have w0 : ((oRows (swept f.l h i) m).flatten.drop (cat h f.l.length i * 6))[0]? = some (.int .u8 y.k) := w0
      have w4 : ((oRows (swept f.l h i) m).flatten.drop (cat h f.l.length i * 6 + 4))[0]? = some (.bool y.rf) := w4
      have b6 : (6 ≤ ((oRows (swept f.l h i) m).flatten.drop (cat h f.l.length i * 6)).length) = True := by rw [List.length_drop, hfl]; simp; omega
      have b4 : (cat h f.l.length i * 6 + 4 + 1 ≤ (oRows (swept f.l h i) m).flatten.length) = True := by rw [hfl]; simp; omega
      by_cases hk1 : y.k = 1
      · have c1 : (y.k == 1) = true := by simpa using hk1
        have hsx : skip x = true := by rw [← s6]; simp [skip, hk1]
        have tE := aI uU <| aI q0 <| aI q1 <| aI qb <| aI e0 <| aI e1 <| aI eb <| aI g0 <| aI g1 <| aI hrow <| aI w0 <| aI w4 <| aI b6 <| aI b4 <| aI Nat.add_zero <| aI c1 <| tfF81.down; repeat' first | (refine Red.h ?_) | ((with_reducible first | apply wz tkF8 | apply wr_z tkF8); exact zZ; decide) | ((with_reducible first | apply wskip' | apply wr_skip); exact zU; exact zL; exact zU; decide) | ((with_reducible first | apply w_ift'); exact zV; exact zU) | fail
        all_goals try clear tE
        rw [hsk, hsx] at hfs'
        refine ⟨rfl, upd_same _ _ _, .inl ⟨rfl, by rw [← hfs]; exact hfs'.symm, ?_⟩⟩
        exact vc_mv (vc_skip hI hx hsx) hb2 hbk (fun id hid => by show upd (upd H (k0 + 1) _) (k0 + 1) _ id = _; rw [upd_ne _ _ (by omega), upd_ne _ _ (by omega)]) (upd_same _ _ _)
      · have c1 : (y.k == 1) = false := by simpa using hk1
        cases hpin : pinned y with
        | true =>
          have hsx : skip x = true := by rw [← s6]; simp [skip, hpin]
          have tE := aI uU <| aI q0 <| aI q1 <| aI qb <| aI e0 <| aI e1 <| aI eb <| aI g0 <| aI g1 <| aI hrow <| aI w0 <| aI w4 <| aI b6 <| aI b4 <| aI Nat.add_zero <| aI c1 <| aI hpin <| tfF81.down; repeat' first | (refine Red.h ?_) | ((with_reducible first | apply wz tkF8 | apply wr_z tkF8); exact zZ; decide) | ((with_reducible first | apply wzg tkF8 | apply wr_zg tkF8); exact zU; exact zL; exact zU; exact zZ; decide) | ((with_reducible first | apply wacallg'); exact zU; exact zL; exact zU; exact zV; exact zVs; exact zAs; (focus (first | exact ⟨_, Tryz.func122, rfl, rfl⟩)); (focus (with_unfolding_all first | exact hl49 _ _)); decide) | ((with_reducible first | apply w_ift'); exact zV; exact zU) | fail
          all_goals try clear tE
          rw [hsk, hsx] at hfs'
          refine ⟨rfl, upd_same _ _ _, .inl ⟨rfl, by rw [← hfs]; exact hfs'.symm, ?_⟩⟩
          exact vc_mv (vc_skip hI hx hsx) hb2 hbk (fun id hid => by show upd (upd H (k0 + 1) _) (k0 + 1) _ id = _; rw [upd_ne _ _ (by omega), upd_ne _ _ (by omega)]) (upd_same _ _ _)
        | false =>
          have hsx : skip x = false := by rw [← s6]; simp [skip, hpin, hk1]
          cases hrf : y.rf with
          | true =>
            rw [hrf] at w4
            have tE := aI uU <| aI q0 <| aI q1 <| aI qb <| aI e0 <| aI e1 <| aI eb <| aI g0 <| aI g1 <| aI hrow <| aI w0 <| aI w4 <| aI b6 <| aI b4 <| aI Nat.add_zero <| aI c1 <| aI hpin <| aI set_len <| tfF81.down; repeat' first | (refine Red.h ?_) | ((with_reducible first | apply wz tkF8 | apply wr_z tkF8); exact zZ; decide) | ((with_reducible first | apply wzg tkF8 | apply wr_zg tkF8); exact zU; exact zL; exact zU; exact zZ; decide) | ((with_reducible first | apply w_store tkF8); exact zV; exact zV; exact zS) | ((with_reducible first | apply wacallg'); exact zU; exact zL; exact zU; exact zV; exact zVs; exact zAs; (focus (first | exact ⟨_, Tryz.func122, rfl, rfl⟩)); (focus (with_unfolding_all first | exact hl49 _ _)); decide) | ((with_reducible first | apply w_ift'); exact zV; exact zU) | ((with_reducible first | apply w_iff'); exact zV; exact zU) | fail
            all_goals try clear tE
            rw [hsk, hsx, hrf] at hfs'
            refine ⟨rfl, by show upd (upd H (k0 + 1) _) b _ (k0 + 1) = _; rw [upd_ne _ _ (by omega), upd_same], .inl ⟨rfl, by rw [← hfs]; exact hfs'.symm, ?_⟩⟩
            refine vc_mv (vc_rf hI hx hab hsx hb2 hbk) hb2 hbk (fun id hid => ?_) (upd_same _ _ _)
            show upd (upd (upd H (k0 + 1) _) b _) (k0 + 1) _ id = _
            rw [upd_ne _ _ (by omega)]
            by_cases e : id = b
            · subst e; rw [upd_same, upd_same]
            · rw [upd_ne _ _ e, upd_ne _ _ (by omega), upd_ne _ _ e]
          | false =>
            rw [hrf] at w4
            have tE := aI uU <| aI q0 <| aI q1 <| aI qb <| aI e0 <| aI e1 <| aI eb <| aI g0 <| aI g1 <| aI hrow <| aI w0 <| aI w4 <| aI b6 <| aI b4 <| aI Nat.add_zero <| aI c1 <| aI hpin <| tfF81.down; repeat' first | (refine Red.h ?_) | ((with_reducible first | apply blk_off); decide) | ((with_reducible first | apply wz tkF8 | apply wr_z tkF8); exact zZ; decide) | ((with_reducible first | apply wzg tkF8 | apply wr_zg tkF8); exact zU; exact zL; exact zU; exact zZ; decide) | ((with_reducible first | apply w_store tkF8); exact zV; exact zV; exact zS) | ((with_reducible first | apply wacallg'); exact zU; exact zL; exact zU; exact zV; exact zVs; exact zAs; (focus (first | exact ⟨_, Tryz.func122, rfl, rfl⟩)); (focus (with_unfolding_all first | exact hl49 _ _)); decide) | ((with_reducible first | apply w_iff'); exact zV; exact zU) | fail
            all_goals try clear tE
            rw [hsk, hsx, hrf] at hfs'
            refine ⟨rfl, by show upd (upd H (k0 + 1) _) 1 _ (k0 + 1) = _; rw [upd_ne _ _ (by omega), upd_same], .inr ⟨rfl, by rw [← hfs]; exact hfs', ?_⟩⟩
            refine vc_mv (vc_at (a' := (cat h f.l.length i : Nat)) hI hb2 hbk) hb2 hbk (fun id hid => ?_) (upd_same _ _ _)
            show upd (upd (upd H (k0 + 1) _) 1 _) (k0 + 1) _ id = _
            rw [upd_ne _ _ (by omega)]
            by_cases e : id = 1
            · subst e; rw [upd_same, upd_same]
            · rw [upd_ne _ _ e, upd_ne _ _ (by omega), upd_ne _ _ e]
    · rintro r H n ⟨rfl, ⟨hfs, hI⟩ | ⟨i, hv, hI⟩⟩
      · refine ⟨rfl, lb, .inl ⟨?_, hst, hpe, hI⟩⟩
        rw [Nat.sub_self] at hfs; exact hfs.symm
      · exact ⟨rfl, _, .inr ⟨i, hv, rfl, rfl, hI⟩⟩
  · rintro r H n ⟨rfl, lb, ⟨hv, hst, hpe, hI⟩ | ⟨i, hv, hst, hpe, hI⟩⟩
    · refine ⟨_, lb, rfl, hI.hl, by rw [hst]; decide, ?_⟩
      rw [hpe]
      have q0 : ((0 : Nat) == k0 + 1) = false := by rw [beq_eq_false_iff_ne]; omega
      have q1 : ((1 : Nat) == k0 + 1) = false := by rw [beq_eq_false_iff_ne]; omega
      have p0 : ((0 : Nat) == k0) = false := by rw [beq_eq_false_iff_ne]; omega
      have p1 : ((1 : Nat) == k0) = false := by rw [beq_eq_false_iff_ne]; omega
      have e0 := hI.h0
      have e1 := hI.h1
      have lt0 : ((-1 : Int) < 0) = True := by simp
      have tE := aI uU <| aI q0 <| aI q1 <| aI p0 <| aI p1 <| aI e0 <| aI e1 <| aI lt0 <| tfF81.down; repeat' first | (refine Red.h ?_) | ((with_reducible first | apply wz tkF8 | apply wr_z tkF8); exact zZ; decide) | ((with_reducible first | apply w_store tkF8); exact zV; exact zV; exact zS) | ((with_reducible first | apply w_ift'); exact zV; exact zU) | fail
      all_goals try clear tE
      refine w_ret ?_
      repeat refine go_ret ?_
      refine noGoto_ret ?_
      refine doneDA_ret (xs := [.agg [.empty, .int .i64 0], .int .i64 0, .int .i64 250]) tkF8 Tryz.results101 ⟨?_, trivial⟩ ?_ ?_
      · show upd (upd (upd H (k0 + 1) none) 0 _) 1 _ k0 = _
        rw [upd_ne _ _ (by omega), upd_ne _ _ (by omega), upd_ne _ _ (by omega)]; exact hI.hk
      · simp only [resA, resOne, killAll, pv, pvx, pvIndexAddr, pvIndex, pvOwn, evp, List.replicate_succ, List.replicate_zero, List.flatten_cons, List.flatten_nil, List.append_nil, List.cons_append, List.nil_append, buildA, placesA, fillA, wr, known, cellsA, List.set_cons_zero, List.set_cons_succ, and_self, Nat.reduceSub, List.length_set, and_true, List.all_cons, List.all_nil, scalA, Bool.and_true, Bool.and_self, evo, evs, cval, Option.bind_some, Option.map_some, binv, intop, pvPick, pvUn, pvConv, pvExtract, fieldOf, pvField, pvFieldAddr, pvLoad, pvNil, loadA, partA, isAggD, pvIface, isIface, pvLen, lenA, pvCall, noYieldB, List.drop_succ_cons, List.drop_zero, List.take_succ_cons, List.take_zero, List.getElem?_cons_succ, List.getElem?_cons_zero, List.getElem?_toArray, List.length_cons, List.length_nil, Bool.false_eq_true, Nat.reduceAdd, Nat.reduceLeDiff, Nat.zero_add, Nat.reduceEqDiff, Nat.one_ne_zero, Int.reduceEq, Int.reduceLT, Int.reduceLE, Int.reduceToNat, Nat.reduceMul, Nat.reduceLT, hl_zero, hl_succ, hl_nil, sp_cons, sp_nil, upd_b, Nat.reduceBEq, cond_true, cond_false, args0_zero, args0_succ, args0_nil, ↓reduceIte, ty3, ty26, p0, p1]; rfl
      · rw [hv]; exact ⟨_, rfl, rfl⟩
    · refine ⟨_, lb, rfl, hI.hl, by rw [hst]; decide, ?_⟩
      rw [hpe]
      have q0 : ((0 : Nat) == k0 + 1) = false := by rw [beq_eq_false_iff_ne]; omega
      have q1 : ((1 : Nat) == k0 + 1) = false := by rw [beq_eq_false_iff_ne]; omega
      have p0 : ((0 : Nat) == k0) = false := by rw [beq_eq_false_iff_ne]; omega
      have p1 : ((1 : Nat) == k0) = false := by rw [beq_eq_false_iff_ne]; omega
      have e0 := hI.h0
      have e1 := hI.h1
      have lt0 : (((cat h f.l.length i : Nat) : Int) < 0) = False := eq_false (by omega)
      have hcl : cat h f.l.length i < f.l.length := cat_lt hl0
      have hw : IntKind.i64.wrap (((cat h f.l.length i : Nat) : Int) + 1) = ((cat h f.l.length i + 1 : Nat) : Int) := by rw [wrap64 (by omega) (by omega)]; rfl
      have hne : ((f.l.length : Int) = 0) = False := eq_false (by omega)
      have hrem : Int.tmod ((cat h f.l.length i + 1 : Nat) : Int) (f.l.length : Int) = (((cat h f.l.length i + 1) % f.l.length : Nat) : Int) := rfl
      have tE := aI uU <| aI q0 <| aI q1 <| aI p0 <| aI p1 <| aI e0 <| aI e1 <| aI lt0 <| aI hw <| aI hne <| aI hrem <| tfF81.down; repeat' first | (refine Red.h ?_) | ((with_reducible first | apply wz tkF8 | apply wr_z tkF8); exact zZ; decide) | ((with_reducible first | apply w_store tkF8); exact zV; exact zV; exact zS) | ((with_reducible first | apply w_iff'); exact zV; exact zU) | ((with_reducible first | apply fm_nil | apply fm_cons)) | ((with_reducible apply m_next); exact zU) | ((with_reducible first | apply m_v tkF8); exact zU; exact zZ; decide) | ((with_reducible first | apply m_x tkF8); exact zU; (focus (decide +kernel)); exact zZ; decide) | ((with_reducible first | apply m_xo tkF8); exact zU; exact zZ; decide) | ((with_reducible apply m_nilO); exact zU; (focus (simp only [List.reverse_cons, List.reverse_nil, List.nil_append, List.cons_append]; rfl)); (focus (simp only [OwedAll, Owed, Nat.reduceAdd]; (repeat' apply And.intro); all_goals first | exact trivial | (intro h; exact absurd h (by decide +kernel)) | (intro _; exact zW)))) | ((with_reducible first | apply m_chg0); exact zU; (focus ((with_reducible apply c_store tkF8); exact zV; exact zV; exact zS))) | ((with_reducible apply w_drawN (id := 15) [2, 3] [([2, 3], [0, 2, 1, 3, 4])] mixed); (focus (decide +kernel))) | fail
      all_goals try clear tE
      refine w_ret ?_
      repeat refine go_ret ?_
      refine noGoto_ret ?_
      have key : ∀ H1 : Heap, (∀ id c, id ≠ 0 → id ≠ 1 → id < k0 → H id = some c → H1 id = some c) → OwnF H1 (fun _ => True) ⟨swept f.l h i, (((cat h f.l.length i + 1) % f.l.length : Nat) : Int)⟩ (.slice b 0 f.l.length none 6) := fun H1 hH1 => by
        refine .inr ⟨by rw [swept_len]; exact hl0, b, m, trivial, by rw [swept_len], hH1 b _ (by omega) (by omega) hbk hI.hb, by rw [swept_len]; exact hI.own.1, fun j u v hu hv => ?_⟩
        have hjl : j < f.l.length := by have := (List.getElem?_eq_some_iff.1 hu).1; rwa [swept_len] at this
        obtain ⟨z, hz, z1, z2⟩ := swept_pins (h := h) (i := i) (List.getElem?_eq_getElem hjl)
        rw [hu] at hz; cases hz
        have ho := hI.own.2 j _ v (List.getElem?_eq_getElem hjl) hv
        have hmv : ∀ id c, (2 ≤ id ∧ id ≠ b ∧ id < k0) → H id = some c → (True ∧ id ≠ b) ∧ H1 id = some c := fun id c hid hc => ⟨⟨trivial, hid.2.1⟩, hH1 id c (by omega) (by omega) hid.2.2 hc⟩
        exact ⟨by rw [z1]; exact ho.1.mv hmv, by rw [z2]; exact ho.2.mv hmv⟩
      refine doneDA_ret (xs := [.agg [.slice b 0 f.l.length none 6, .int .i64 (((cat h f.l.length i + 1) % f.l.length : Nat) : Int)], .int .i64 ((cat h f.l.length i : Nat) : Int), .int .i64 0]) tkF8 Tryz.results101 ⟨?_, trivial⟩ ?_ ?_
      · simp only [sp_cons, sp_nil, upd_b, Nat.reduceBEq, cond_true, cond_false, args0_zero, args0_succ, args0_nil, p0, p1, q0, q1, show (k0 == 0) = false from by rw [beq_eq_false_iff_ne]; omega, show (k0 == 1) = false from by rw [beq_eq_false_iff_ne]; omega, show (k0 == k0 + 1) = false from by rw [beq_eq_false_iff_ne]; omega, hI.hk]
      · simp only [resA, resOne, killAll, pv, pvx, pvIndexAddr, pvIndex, pvOwn, evp, List.replicate_succ, List.replicate_zero, List.flatten_cons, List.flatten_nil, List.append_nil, List.cons_append, List.nil_append, buildA, placesA, fillA, wr, known, cellsA, List.set_cons_zero, List.set_cons_succ, and_self, Nat.reduceSub, List.length_set, and_true, List.all_cons, List.all_nil, scalA, Bool.and_true, Bool.and_self, evo, evs, cval, Option.bind_some, Option.map_some, binv, intop, pvPick, pvUn, pvConv, pvExtract, fieldOf, pvField, pvFieldAddr, pvLoad, pvNil, loadA, partA, isAggD, pvIface, isIface, pvLen, lenA, pvCall, noYieldB, List.drop_succ_cons, List.drop_zero, List.take_succ_cons, List.take_zero, List.getElem?_cons_succ, List.getElem?_cons_zero, List.getElem?_toArray, List.length_cons, List.length_nil, Bool.false_eq_true, Nat.reduceAdd, Nat.reduceLeDiff, Nat.zero_add, Nat.reduceEqDiff, Nat.one_ne_zero, Int.reduceEq, Int.reduceLT, Int.reduceLE, Int.reduceToNat, Nat.reduceMul, Nat.reduceLT, hl_zero, hl_succ, hl_nil, sp_cons, sp_nil, upd_b, Nat.reduceBEq, cond_true, cond_false, args0_zero, args0_succ, args0_nil, ↓reduceIte, ty3, ty26, p0, p1, q0, q1, e0, e1]
      · rw [hv]
        refine ⟨_, rfl, _, rfl, key _ (fun id c h0 h1 hk hc => ?_)⟩
        simp only [killAll]
        rw [upd_ne _ _ (by omega)]
        repeat rw [upd_ne _ _ (by omega)]
        exact hc
/-- What Victim answers. -/
def vicF (c : Cf) (f : Fs) : Fs := if okF c f = true then (match vic f.l f.h.toNat with
  | none => ⟨[], 0⟩
  | some i => ⟨swept f.l f.h.toNat i, (((cat f.h.toNat f.l.length i + 1) % f.l.length : Nat) : Int)⟩) else ⟨[], 0⟩
def vicA (c : Cf) (f : Fs) : Int := if okF c f = true then (match vic f.l f.h.toNat with
  | none => 0
  | some i => ((cat f.h.toNat f.l.length i : Nat) : Int)) else 0
def vicE (c : Cf) (f : Fs) : Int := if okF c f = true then (match vic f.l f.h.toNat with
  | none => 250
  | some i => 0) else 8
theorem cal101 : Callable Tryz.prog 101 := ⟨_, Tryz.func101, rfl, rfl⟩
theorem ac101_bad (c : Cf) (f : Fs) (hl : f.l.length ≤ 1000000) (hd : ∀ x, x ∈ f.l → x.d.length ≤ 1000000 ∧ x.pins.length ≤ 1000000) (hok : okF c f = false) : AC Tryz.prog 101 [.agg c.cells, .agg f.cells] (Lg.hl []) 0 (fun r H _ => r = .ret (.tuple [.agg [.empty, .int .i64 0], .int .i64 0, .int .i64 8])) := by
  have ev : eF c f = 8 := by simp [eF, hok]
  have h11 := pf43 c f hl (fun x hx => (hd x hx).2)
  refine ac_of_wd Tryz.func101 (c := _) rfl (Nat.le_of_ble_eq_true rfl) ?_
  rw [show Tryz.f101.ntmps = 59 from rfl]
  have tE := aI uU <| aI Cf.cells.eq_1 <| aI Fs.cells.eq_1 <| aI ev <| tfF81.down; repeat' first | (refine Red.h ?_) | ((with_reducible first | apply wz tkF8 | apply wr_z tkF8); exact zZ; decide) | ((with_reducible first | apply w_alloc tkF8); exact zT; decide) | fail
  all_goals try clear tE
  refine w_scope' ?_
  have tE := aI uU <| aI Cf.cells.eq_1 <| aI Fs.cells.eq_1 <| aI ev <| tfF81.down; repeat' first | (refine Red.h ?_) | ((with_reducible first | apply wz tkF8 | apply wr_z tkF8); exact zZ; decide) | ((with_reducible first | apply w_store tkF8); exact zV; exact zV; exact zS) | ((with_reducible first | apply wcall' | apply wr_call); exact zV; exact zVs; exact zAs; (focus (with_unfolding_all first | exact h11)); decide) | ((with_reducible first | apply w_ift'); exact zV; exact zU) | fail
  all_goals try clear tE
  refine w_ret ?_
  repeat refine go_ret ?_
  refine noGoto_ret ?_
  refine doneDA_ret (xs := [.agg [.empty, .int .i64 0], .int .i64 0, .int .i64 8]) tkF8 Tryz.results101 trivial ?_ rfl
  simp only [resA, resOne, killAll, pv, pvx, pvIndexAddr, pvIndex, pvOwn, evp, List.replicate_succ, List.replicate_zero, List.flatten_cons, List.flatten_nil, List.append_nil, List.cons_append, List.nil_append, buildA, placesA, fillA, wr, known, cellsA, List.set_cons_zero, List.set_cons_succ, and_self, Nat.reduceSub, List.length_set, and_true, List.all_cons, List.all_nil, scalA, Bool.and_true, Bool.and_self, evo, evs, cval, Option.bind_some, Option.map_some, binv, intop, pvPick, pvUn, pvConv, pvExtract, fieldOf, pvField, pvFieldAddr, pvLoad, pvNil, loadA, partA, isAggD, pvIface, isIface, pvLen, lenA, pvCall, noYieldB, List.drop_succ_cons, List.drop_zero, List.take_succ_cons, List.take_zero, List.getElem?_cons_succ, List.getElem?_cons_zero, List.getElem?_toArray, List.length_cons, List.length_nil, Bool.false_eq_true, Nat.reduceAdd, Nat.reduceLeDiff, Nat.zero_add, Nat.reduceEqDiff, Nat.one_ne_zero, Int.reduceEq, Int.reduceLT, Int.reduceLE, Int.reduceToNat, Nat.reduceMul, Nat.reduceLT, hl_zero, hl_succ, hl_nil, sp_cons, sp_nil, upd_b, Nat.reduceBEq, cond_true, cond_false, args0_zero, args0_succ, args0_nil, ↓reduceIte, ty3, ty26]; rfl
theorem nf101 (c : Cf) (f : Fs) (hl : f.l.length ≤ 1000000) (hd : ∀ x, x ∈ f.l → x.d.length ≤ 1000000 ∧ x.pins.length ≤ 1000000) : NF Tryz.prog 101 [.agg c.cells, .agg f.cells] (fun r => r = .tuple [.agg (vicF c f).cells, .int .i64 (vicA c f), .int .i64 (vicE c f)]) := by
  have hz : ∀ (H : Heap) (e : Int), Own H (fun _ => True) (.tuple [.agg [.empty, .int .i64 0], .int .i64 0, .int .i64 e]) (.tuple [.agg (Fs.cells ⟨[], 0⟩), .int .i64 0, .int .i64 e]) := fun H e =>
    OwnL.tuple (.cons (OwnL.agg (.cons .nothing (.cons (.int _ _) .nil))) (.cons (.int _ _) (.cons (.int _ _) .nil)))
  cases hok : okF c f with
  | false =>
    refine nf_of_0 cal101 (args_2 (cf_pur c) (fsa_pur f)) ((ac101_bad c f hl hd hok).mono ?_)
    rintro r H n rfl
    exact ⟨_, _, rfl, hz H 8, by simp [vicF, vicA, vicE, hok]⟩
  | true =>
    refine nf_of_0 cal101 (args_2 (cf_pur c) (fsa_pur f)) ((ac101_some c f hl hd hok).mono ?_)
    rintro r H n ⟨x, rfl, hx⟩
    cases hv : vic f.l f.h.toNat with
    | none =>
      rw [hv] at hx
      subst hx
      exact ⟨_, _, rfl, hz H 250, by simp [vicF, vicA, vicE, hok, hv]⟩
    | some i =>
      rw [hv] at hx
      obtain ⟨a, rfl, ho⟩ := hx
      exact ⟨_, _, rfl, OwnL.tuple (.cons ho.own (.cons (.int _ _) (.cons (.int _ _) .nil))), by simp [vicF, vicA, vicE, hok, hv]⟩
end Go.Proofs.YtlmighkbeacjnaaGreatDoor


open Go Go.Lg
set_option linter.unusedSimpArgs false
set_option linter.unusedVariables false
set_option maxHeartbeats 4000000
set_option maxRecDepth 20000
namespace Go.Proofs.YtlmighkbeacjnaaGreatDoor
theorem may_free {c : Cf} {x : Fr} (h : mayF c x = true) : freeF x = !skip x := by
  simp only [mayF, Bool.and_eq_true] at h
  obtain ⟨_, h⟩ := h
  by_cases k0 : x.k = 0
  · have hp : pinned x = false := by simp [k0] at h; exact h.1.1.2
    simp [freeF, skip, k0, hp]
  · by_cases k1 : x.k = 1
    · simp [freeF, skip, k1]
    · by_cases k2 : x.k = 2
      · simp [freeF, skip, k2]
      · simp [k0, k1, k2] at h
theorem may_unref {c : Cf} {x : Fr} (h : mayF c x = true) : mayF c (unref x) = true := by
  by_cases k0 : x.k = 0
  · simp [mayF, unref, pinned, wildP, k0] at h ⊢; simp_all
  · by_cases k1 : x.k = 1
    · simp [mayF, unref, pinned, wildP, k1] at h ⊢; simp_all
    · by_cases k2 : x.k = 2
      · simp [mayF, unref, pinned, wildP, k2] at h ⊢; simp_all
      · simp [mayF, k0, k1, k2] at h
theorem okL_may {c : Cf} : ∀ {l : List Fr} {s : List Int}, okL c s l = true → ∀ x, x ∈ l → mayF c x = true
  | [], _, _, x, hx => by cases hx
  | y :: l, s, h, x, hx => by
    simp only [okL, Bool.and_eq_true] at h
    rcases List.mem_cons.1 hx with rfl | hx
    · exact h.1
    · have h2 := h.2
      by_cases k0 : y.k = 0
      · simp [k0] at h2; exact okL_may h2 x hx
      · simp [k0] at h2; exact okL_may h2.2 x hx
theorem okL_rel {c : Cf} : ∀ {l l' : List Fr} {s : List Int}, l'.length = l.length → (∀ (j : Nat) x y, l[j]? = some x → l'[j]? = some y → y.k = x.k ∧ y.p = x.p ∧ mayF c y = true) → okL c s l = true → okL c s l' = true
  | [], [], _, _, _, _ => rfl
  | [], _ :: _, _, h, _, _ => by simp at h
  | _ :: _, [], _, h, _, _ => by simp at h
  | x :: l, y :: l', s, hl, hr, h => by
    obtain ⟨h1, h2, h3⟩ := hr 0 x y rfl rfl
    have ih := fun s => okL_rel (c := c) (l := l) (l' := l') (s := s) (by simpa using hl) (fun j u v hu hv => hr (j + 1) u v (by simpa using hu) (by simpa using hv))
    simp only [okL, Bool.and_eq_true] at h ⊢
    refine ⟨h3, ?_⟩
    rw [h1, h2]
    by_cases k0 : x.k = 0
    · simp [k0] at h ⊢; exact ih s h.2
    · simp [k0] at h ⊢; exact ⟨h.2.1, ih _ h.2.2⟩
theorem okF_parts {c : Cf} {f : Fs} (h : okF c f = true) : c.good = true ∧ (f.l.length : Int) = c.fr ∧ 0 ≤ f.h ∧ f.h < f.l.length ∧ okL c [] f.l = true := by
  simp only [okF, okS, Bool.and_eq_true, decide_eq_true_eq] at h
  exact ⟨h.1.1.1.1, h.1.1.1.2, h.1.1.2, h.1.2, h.2⟩
theorem okF_swept {c : Cf} {f : Fs} (h : okF c f = true) (h0 i : Nat) (hand : Nat) (hh : hand < f.l.length) : okF c ⟨swept f.l h0 i, (hand : Int)⟩ = true := by
  obtain ⟨h1, h2, h3, h4, h5⟩ := okF_parts h
  have hok : okL c [] (swept f.l h0 i) = true := by
    refine okL_rel (swept_len _ _ _) (fun j x y hx hy => ?_) h5
    rw [swept_get hx] at hy
    have hm := okL_may h5 x (List.mem_of_getElem? hx)
    split at hy
    · cases hy; exact ⟨rfl, rfl, may_unref hm⟩
    · cases hy; exact ⟨rfl, rfl, hm⟩
  simp only [okF, okS, swept_len, h1, h2, hok, Bool.and_true, Bool.true_and, decide_true]
  simp; omega
/-- The parts of the clock's law, of frames that may be. -/
structure TakeL (l : List Fr) (h i : Nat) : Prop where
  some_ : l.any freeF = true
  free_ : ∃ x, l[cat h l.length i]? = some x ∧ freeF x = true ∧ (x.rf = true → ∀ y, y ∈ l → freeF y = true → y.rf = true)
  off : ∃ y, (swept l h i)[cat h l.length i]? = some y ∧ y.rf = false
theorem vic_take {c : Cf} {l : List Fr} {h i : Nat} (hm : ∀ x, x ∈ l → mayF c x = true) (hh : h < l.length) (hv : vic l h = some i) : TakeL l h i := by
  obtain ⟨hp, hs, _, _⟩ := (first_past (k := 2 * l.length) (by omega) (past_zero l h)).1 i hv
  obtain ⟨x, hx⟩ : ∃ x, l[cat h l.length i]? = some x := ⟨_, List.getElem?_eq_getElem (cat_lt (by omega))⟩
  have hxm := List.mem_of_getElem? hx
  simp only [stops, hx, Bool.and_eq_true, Bool.not_eq_true'] at hs
  have hfx : freeF x = true := by rw [may_free (hm x hxm), hs.1]; rfl
  refine ⟨List.any_eq_true.2 ⟨x, hxm, hfx⟩, ⟨x, hx, hfx, fun hr y hy hfy => ?_⟩, ⟨_, swept_at hx, hs.2⟩⟩
  refine past_take hh hp hx hs.1 hs.2 hr y hy ?_
  rw [may_free (hm y hy)] at hfy
  simpa using hfy
end Go.Proofs.YtlmighkbeacjnaaGreatDoor


open Go Go.Lg
set_option linter.unusedSimpArgs false
set_option linter.unusedVariables false
set_option maxHeartbeats 4000000
set_option maxRecDepth 20000
namespace Go.Proofs.YtlmighkbeacjnaaGreatDoor
def two : Cf := ⟨4, 1, 2, 1, 4, 2, 2, 2, 4⟩
end Go.Proofs.YtlmighkbeacjnaaGreatDoor


open Go Go.Lg
set_option linter.unusedSimpArgs false
set_option linter.unusedVariables false
set_option maxHeartbeats 4000000
set_option maxRecDepth 20000
namespace Go.Proofs.YtlmighkbeacjnaaGreatDoor
theorem great_small {l : List Fr} (h : greatF l = false) : l.length ≤ 20 ∧ ∀ x, x ∈ l → x.d.length ≤ 100 ∧ x.pins.length ≤ 20 := by
  simp only [greatF, Bool.or_eq_false_iff, decide_eq_false_iff_not] at h
  have hl : l.length ≤ 20 := by omega
  rw [List.take_of_length_le hl] at h
  refine ⟨hl, fun x hx => ?_⟩
  have := (List.any_eq_false.1 h.1) x hx
  simp [bigF] at this
  omega
end Go.Proofs.YtlmighkbeacjnaaGreatDoor


