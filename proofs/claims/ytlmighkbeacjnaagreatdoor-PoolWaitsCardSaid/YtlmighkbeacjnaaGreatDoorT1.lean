/- queue.Take, as a function that only computes. -/
import Derived.Test.YtlmighkbeacjnaaGreatDoorLm5
import Derived.Test.YtlmighkbeacjnaaGreatDoorYb
open Go Go.Lg
set_option linter.unusedSimpArgs false
set_option linter.unusedVariables false
set_option maxHeartbeats 4000000
set_option maxRecDepth 20000
namespace Go.Proofs.YtlmighkbeacjnaaGreatDoor
theorem tkT1 : TOK Tryz.prog (tyOf Tryz.prog) := tok Tryz.prog
def tfT10 := PLift.up (aI ty5 <| aI ty28 <| Tryz.results42)
def tfT11 := PLift.up (aI ty3 <| aI ty5 <| aI ty27 <| aI ty28 <| aI ty58 <| Tryz.results77)
def tfT12 := PLift.up (aI ty3 <| aI ty5 <| aI ty27 <| aI ty28 <| aI ty58 <| Tryz.results41)
def tfT13 := PLift.up (aI ty3 <| aI ty4 <| aI ty5 <| aI ty23 <| aI ty27 <| aI ty28 <| aI ty34 <| aI ty58 <| aI ty98 <| aI Tryz.results31 <| Tryz.results54)
theorem unRows_row (l : List Un) : ∀ r, r ∈ unRows l → r.length = 4 := by
  intro r hr
  simp only [unRows, List.mem_map] at hr
  obtain ⟨y, _, rfl⟩ := hr; rfl
theorem pf42 (b : List UInt8) (hb : b.length ≤ 1000000) : PF Tryz.prog 42 [.view (byteRows b)] (fun r => r = .view (byteRows b)) := by
  refine pf_of_wf0 Tryz.func42 (c := _) rfl rfl (Nat.le_of_ble_eq_true rfl) (fun x hx => by rcases List.mem_singleton.1 hx with rfl; exact byteRows_pur b) ?_
  rw [show Tryz.f42.ntmps = 8 from rfl]
  cases b with
  | nil =>
    have tE := aI uU <| tfT10.down; repeat' first | (refine Red.h ?_) | ((with_reducible first | apply wz tkT1 | apply wr_z tkT1); exact zZ; decide) | ((with_reducible first | apply wp | apply wr_p); (focus (first | ((with_reducible first | apply p_slv tkT1); exact zT; exact zU; exact zT; exact zV; exact zN; exact zN; (focus (first | exact zU | exact zB)); (focus (first | exact zU | exact zB)); (focus (first | exact zU | assumption))) | ((with_reducible first | apply p_slo tkT1); exact zT; exact zU; exact zT; exact zV; exact zN; exact zN; (focus (first | exact zU | exact zB)); (focus (first | exact zU | exact zB)); (focus (first | exact zU | assumption))) | ((with_reducible first | apply p_nil tkT1 | apply p_nnil tkT1); exact zT; exact zV; exact zU) | ((with_reducible first | apply p_bs0 tkT1); exact zT; exact zU; exact zT) | ((with_reducible first | apply p_ap0 tkT1); exact zT; exact zU; exact zT; exact zT; exact zU; exact zA; exact zV; (focus (first | exact Or.inl rfl | exact Or.inr rfl))) | ((with_reducible first | apply p_bytes tkT1); exact zT; exact zU; exact zT; exact zU; exact zT; exact zU; exact zV))); decide) | ((with_reducible first | apply wl_nilx tkT1); (focus (first | exact Or.inl rfl | exact Or.inr rfl)); exact zT; exact zU; exact zV; (focus (first | exact Or.inl rfl | exact Or.inr ⟨_, rfl⟩)); decide; intro b; cases b) | ((with_reducible first | apply w_ift'); exact zV; exact zU) | ((with_reducible first | apply w_iff'); exact zV; exact zU) | ((with_reducible apply w_ret); (repeat refine Red.h ?_); (with_reducible first | apply donef_ret tkT1 | apply doneA_ret tkT1); exact zT; exact zD) | fail
    all_goals try clear tE
    · exact .nothing
    · exact byteRows_pur []
    · rfl
    · exact .nothing
    · exact byteRows_pur []
    · rfl
  | cons x b =>
    have hr := byteRows_row (x :: b)
    have hbl := byteRows_len (x :: b)
    rw [List.length_cons] at hbl
    simp only [List.length_cons] at hb
    have tE := aI uU <| aI hbl <| tfT10.down; repeat' first | (refine Red.h ?_) | ((with_reducible first | apply wz tkT1 | apply wr_z tkT1); exact zZ; decide) | ((with_reducible first | apply w_ap | apply wr_ap); (focus (first | (intro _ ho _ hr _; (with_reducible apply ap_new tkT1 ho (hr := hr)); exact zT; exact zU; exact zT; exact zT; exact zU; exact zA; exact zV; exact zK; exact zM; exact zK; exact zK; decide) | (intro _ ho _ hr _; (with_reducible apply ap_own tkT1 ho (hr := hr)); exact zT; exact zU; exact zT; exact zT; exact zU; exact zV; exact zV; exact zH; exact zKo; exact zM; (focus (first | rfl | assumption)); exact zKo; exact zKo; decide))); decide) | ((with_reducible first | apply wp | apply wr_p); (focus (first | ((with_reducible first | apply p_slv tkT1); exact zT; exact zU; exact zT; exact zV; exact zN; exact zN; (focus (first | exact zU | exact zB)); (focus (first | exact zU | exact zB)); (focus (first | exact zU | assumption))) | ((with_reducible first | apply p_slo tkT1); exact zT; exact zU; exact zT; exact zV; exact zN; exact zN; (focus (first | exact zU | exact zB)); (focus (first | exact zU | exact zB)); (focus (first | exact zU | assumption))) | ((with_reducible first | apply p_nil tkT1 | apply p_nnil tkT1); exact zT; exact zV; exact zU) | ((with_reducible first | apply p_bs0 tkT1); exact zT; exact zU; exact zT) | ((with_reducible first | apply p_ap0 tkT1); exact zT; exact zU; exact zT; exact zT; exact zU; exact zA; exact zV; (focus (first | exact Or.inl rfl | exact Or.inr rfl))) | ((with_reducible first | apply p_bytes tkT1); exact zT; exact zU; exact zT; exact zU; exact zT; exact zU; exact zV))); decide) | ((with_reducible first | apply w_iff'); exact zV; exact zU) | ((with_reducible apply w_ret); (repeat refine Red.h ?_); (with_reducible first | apply donef_ret tkT1 | apply doneA_ret tkT1); exact zT; exact zD) | fail
    all_goals try clear tE
    · exact fz_rowsL hbl hr (byteRows_pur (x :: b)) (upd_same _ _ _)
    · exact byteRows_pur _
    · rfl
theorem pf77_nil : PF Tryz.prog 77 [.view (unRows [])] (fun r => r = .view (unRows [])) := by
  refine pf_of_wf0 Tryz.func77 (c := _) rfl rfl (Nat.le_of_ble_eq_true rfl) (fun x hx => by rcases List.mem_singleton.1 hx with rfl; exact unRows_pur []) ?_
  rw [show Tryz.f77.ntmps = 8 from rfl]
  have tE := aI uU <| tfT11.down; repeat' first | (refine Red.h ?_) | ((with_reducible first | apply wz tkT1 | apply wr_z tkT1); exact zZ; decide) | ((with_reducible first | apply wp | apply wr_p); (focus (first | ((with_reducible first | apply p_slv tkT1); exact zT; exact zU; exact zT; exact zV; exact zN; exact zN; (focus (first | exact zU | exact zB)); (focus (first | exact zU | exact zB)); (focus (first | exact zU | assumption))) | ((with_reducible first | apply p_slo tkT1); exact zT; exact zU; exact zT; exact zV; exact zN; exact zN; (focus (first | exact zU | exact zB)); (focus (first | exact zU | exact zB)); (focus (first | exact zU | assumption))) | ((with_reducible first | apply p_nil tkT1 | apply p_nnil tkT1); exact zT; exact zV; exact zU) | ((with_reducible first | apply p_bs0 tkT1); exact zT; exact zU; exact zT) | ((with_reducible first | apply p_ap0 tkT1); exact zT; exact zU; exact zT; exact zT; exact zU; exact zA; exact zV; (focus (first | exact Or.inl rfl | exact Or.inr rfl))) | ((with_reducible first | apply p_bytes tkT1); exact zT; exact zU; exact zT; exact zU; exact zT; exact zU; exact zV))); decide) | ((with_reducible first | apply wl_nilx tkT1); (focus (first | exact Or.inl rfl | exact Or.inr rfl)); exact zT; exact zU; exact zV; (focus (first | exact Or.inl rfl | exact Or.inr ⟨_, rfl⟩)); decide; intro b; cases b) | ((with_reducible first | apply w_ift'); exact zV; exact zU) | ((with_reducible first | apply w_iff'); exact zV; exact zU) | ((with_reducible apply w_ret); (repeat refine Red.h ?_); (with_reducible first | apply donef_ret tkT1 | apply doneA_ret tkT1); exact zT; exact zD) | fail
  all_goals try clear tE
  · exact .nothing
  · exact unRows_pur []
  · rfl
  · exact .nothing
  · exact unRows_pur []
  · rfl
theorem un_at {l : List Un} {i : Nat} {u : Un} (h : l[i]? = some u) {j : Nat} (hj : j < 4) : (unRows l).flatten[i * 4 + j]? = u.cells[j]? :=
  flat_at (unRows_row l) (r := u.cells) (by simp [unRows, h]) hj
theorem unFlat_len (l : List Un) : (unRows l).flatten.length = l.length * 4 := by
  rw [flat_len (unRows_row l), unRows_len]
theorem set_same {l : List AV} {i : Nat} {x : AV} (h : l[i]? = some x) : l.set i x = l := by
  refine List.ext_getElem? fun j => ?_
  rw [List.getElem?_set]
  split
  · rename_i e; subst e; split
    · exact h.symm
    · rename_i hlt; rw [List.getElem?_eq_none (by omega)] at h; cases h
  · rfl
theorem ac41 (l : List Un) (hl0 : 0 < l.length) (hl1 : l.length ≤ 1000000) (hd : ∀ u, u ∈ l → u.d.length ≤ 1000000) : AC Tryz.prog 41 [.view (unRows l)] (hl []) 0 (fun r H _ => ∃ id, r = .ret (.slice id 0 l.length none 4) ∧ H id = some (.cells (unRows l).flatten 58)) := by
  refine ac_of_w Tryz.func41 (c := _) rfl (Nat.le_of_ble_eq_true rfl) ?_
  rw [show Tryz.f41.ntmps = 24 from rfl]
  have hr := unRows_row l
  obtain ⟨u0, l0, rfl⟩ : ∃ u l', l = u :: l' := by cases l with
    | nil => cases hl0
    | cons u l' => exact ⟨u, l', rfl⟩
  have hun := unRows_len (u0 :: l0)
  simp only [List.length_cons] at hl1
  rw [List.length_cons] at hun
  have tE := aI uU <| aI hun <| aI ty3 <| aI ty5 <| aI ty27 <| aI ty28 <| aI ty58 <| aI Tryz.results41 <| Tryz.results77; repeat' first | (refine Red.h ?_) | ((with_reducible first | apply wz tkT1 | apply wr_z tkT1); exact zZ; decide) | ((with_reducible first | apply w_ap | apply wr_ap); (focus (first | (intro _ ho _ hr _; (with_reducible apply ap_new tkT1 ho (hr := hr)); exact zT; exact zU; exact zT; exact zT; exact zU; exact zA; exact zV; exact zK; exact zM; exact zK; exact zK; decide) | (intro _ ho _ hr _; (with_reducible apply ap_own tkT1 ho (hr := hr)); exact zT; exact zU; exact zT; exact zT; exact zU; exact zV; exact zV; exact zH; exact zKo; exact zM; (focus (first | rfl | assumption)); exact zKo; exact zKo; decide))); decide) | ((with_reducible first | apply wp | apply wr_p); (focus (first | ((with_reducible first | apply p_slv tkT1); exact zT; exact zU; exact zT; exact zV; exact zN; exact zN; (focus (first | exact zU | exact zB)); (focus (first | exact zU | exact zB)); (focus (first | exact zU | assumption))) | ((with_reducible first | apply p_slo tkT1); exact zT; exact zU; exact zT; exact zV; exact zN; exact zN; (focus (first | exact zU | exact zB)); (focus (first | exact zU | exact zB)); (focus (first | exact zU | assumption))) | ((with_reducible first | apply p_nil tkT1 | apply p_nnil tkT1); exact zT; exact zV; exact zU) | ((with_reducible first | apply p_bs0 tkT1); exact zT; exact zU; exact zT) | ((with_reducible first | apply p_ap0 tkT1); exact zT; exact zU; exact zT; exact zT; exact zU; exact zA; exact zV; (focus (first | exact Or.inl rfl | exact Or.inr rfl))) | ((with_reducible first | apply p_bytes tkT1); exact zT; exact zU; exact zT; exact zU; exact zT; exact zU; exact zV))); decide) | ((with_reducible first | apply wl_inl); exact zV; exact zVs; exact zAs; (focus (first | exact Tryz.func77)); (focus (rfl)); (focus (rfl)); (focus (rfl)); (focus (exact Nat.le_of_ble_eq_true rfl)); decide) | ((with_reducible apply w_ret); (repeat refine Red.h ?_); (with_reducible apply inl_ret tkT1); exact zT; exact zD) | ((with_reducible first | apply w_iff'); exact zV; exact zU) | fail
  all_goals try clear tE
  refine w_loopS (S := Nat) (fun i => [(3, .slice 0 0 (l0.length + 1) none 4), (8, .int .i64 ((l0.length + 1 : Nat) : Int)), (9, .int .i64 (i : Int))]) (fun _ => [some (.cells (unRows (u0 :: l0)).flatten 58)]) [] (fun i => i ≤ l0.length + 1) (fun i => l0.length + 1 - i) 0 ?_ (Nat.zero_le _) ?_
  · (have tE := aI uU <| hun; refine kcanS [0] (h6 := ?_)); clear tE
    exact ⟨⟨0, _, rfl, rfl, .cells (.purs (flat_pur (unRows_pur _)) rfl)⟩, trivial⟩
  · intro i hi
    simp only [St.ofS, List.length_nil, List.length_cons, Nat.zero_add]
    have hw : IntKind.i64.wrap ((i : Int) + 1) = ((i + 1 : Nat) : Int) := by rw [wrap64 (by omega) (by omega)]; rfl
    by_cases e : i < l0.length + 1
    · have h1 : ((i : Int) < ((l0.length + 1 : Nat) : Int)) = True := by simp; omega
      have h0 : (0 ≤ (i : Int)) = True := by simp
      obtain ⟨u, hu⟩ : ∃ u, (u0 :: l0)[i]? = some u := ⟨(u0 :: l0)[i]'(by simpa using e), List.getElem?_eq_getElem _⟩
      have hat : (unRows (u0 :: l0)).flatten[i * 4 + 3]? = some (.view (byteRows u.d)) := un_at hu (by decide)
      have w4 : ((unRows (u0 :: l0)).flatten.drop (i * 4 + 3))[0]? = some (.view (byteRows u.d)) := by rw [List.getElem?_drop, Nat.add_zero]; exact hat
      have w5 : (i * 4 + 3 + 1 ≤ (unRows (u0 :: l0)).flatten.length) = True := by rw [unFlat_len, List.length_cons]; simp; omega
      have w6 := set_same hat
      have tE := aI uU <| aI h1 <| aI h0 <| aI hw <| aI w4 <| aI w5 <| aI w6 <| aI hun <| tfT12.down; repeat' first | (refine Red.h ?_) | ((with_reducible first | apply wz tkT1 | apply wr_z tkT1); exact zZ; decide) | ((with_reducible first | apply w_store tkT1); exact zV; exact zV; exact zS) | ((with_reducible first | apply wcall' | apply wr_call); exact zV; exact zVs; exact zAs; (focus (with_unfolding_all first | exact pf42 u.d (hd u (List.mem_of_getElem? hu)))); decide) | ((with_reducible first | apply w_ift'); exact zV; exact zU) | fail
      all_goals try clear tE
      refine ⟨i + 1, by omega, by omega, ?_⟩
      (have tE := uU; refine kcanS [0] (h6 := ?_)); clear tE
      exact ⟨⟨0, _, rfl, rfl, .cells (.purs (flat_pur (unRows_pur _)) rfl)⟩, trivial⟩
    · have h1 : ((i : Int) < ((l0.length + 1 : Nat) : Int)) = False := by simp; omega
      have tE := aI uU <| aI h1 <| aI hun <| tfT12.down; repeat' first | (refine Red.h ?_) | ((with_reducible first | apply wz tkT1 | apply wr_z tkT1); exact zZ; decide) | ((with_reducible first | apply w_iff'); exact zV; exact zU) | ((with_reducible apply w_ret); (repeat refine Red.h ?_); (with_reducible first | apply donef_ret tkT1 | apply doneA_ret tkT1); exact zT; exact zD) | fail
      all_goals try clear tE
      exact ⟨0, rfl, rfl⟩
theorem ac41o (l : List Un) (hl0 : 0 < l.length) (hl1 : l.length ≤ 1000000) (hd : ∀ u, u ∈ l → u.d.length ≤ 1000000) (H : Heap) (n : Nat) : AC Tryz.prog 41 [.view (unRows l)] H n (fun r H' n' => r = .ret (.slice n 0 l.length none 4) ∧ H' = upd H n (some (.cells (unRows l).flatten 58)) ∧ n' = n + 1) := by
  refine (ac_own1 (F := fun len cap sz cs e => len = l.length ∧ cap = none ∧ sz = 4 ∧ cs = (unRows l).flatten ∧ e = 58) (fun x hx => by rcases List.mem_singleton.1 hx with rfl; exact unRows_pur l) ((ac41 l hl0 hl1 hd).mono ?_) H n).mono ?_
  · rintro r H n ⟨id, hr, hH⟩
    exact ⟨id, _, _, _, _, _, hr, hH, flat_pur (unRows_pur l), rfl, rfl, rfl, rfl, rfl⟩
  · rintro r H n ⟨len, cap, sz, cs, e, h1, h2, h3, rfl, rfl, rfl, rfl, rfl⟩
    exact ⟨h1, h2, h3⟩
theorem pf77_nilE : PF Tryz.prog 77 [.view (unRows [])] (fun r => r = .empty) := by
  refine pf_of_w0 Tryz.func77 (c := _) rfl rfl (Nat.le_of_ble_eq_true rfl) (fun x hx => by rcases List.mem_singleton.1 hx with rfl; exact unRows_pur []) ?_
  rw [show Tryz.f77.ntmps = 8 from rfl]
  have tE := aI uU <| tfT11.down; repeat' first | (refine Red.h ?_) | ((with_reducible first | apply wz tkT1 | apply wr_z tkT1); exact zZ; decide) | ((with_reducible first | apply wp | apply wr_p); (focus (first | ((with_reducible first | apply p_slv tkT1); exact zT; exact zU; exact zT; exact zV; exact zN; exact zN; (focus (first | exact zU | exact zB)); (focus (first | exact zU | exact zB)); (focus (first | exact zU | assumption))) | ((with_reducible first | apply p_slo tkT1); exact zT; exact zU; exact zT; exact zV; exact zN; exact zN; (focus (first | exact zU | exact zB)); (focus (first | exact zU | exact zB)); (focus (first | exact zU | assumption))) | ((with_reducible first | apply p_nil tkT1 | apply p_nnil tkT1); exact zT; exact zV; exact zU) | ((with_reducible first | apply p_bs0 tkT1); exact zT; exact zU; exact zT) | ((with_reducible first | apply p_ap0 tkT1); exact zT; exact zU; exact zT; exact zT; exact zU; exact zA; exact zV; (focus (first | exact Or.inl rfl | exact Or.inr rfl))) | ((with_reducible first | apply p_bytes tkT1); exact zT; exact zU; exact zT; exact zU; exact zT; exact zU; exact zV))); decide) | ((with_reducible first | apply wl_nilx tkT1); (focus (first | exact Or.inl rfl | exact Or.inr rfl)); exact zT; exact zU; exact zV; (focus (first | exact Or.inl rfl | exact Or.inr ⟨_, rfl⟩)); decide; intro b; cases b) | ((with_reducible first | apply w_ift'); exact zV; exact zU) | ((with_reducible first | apply w_iff'); exact zV; exact zU) | ((with_reducible apply w_ret); (repeat refine Red.h ?_); (with_reducible apply done_ret tkT1); exact zT; exact zD; exact zX) | fail
  all_goals try clear tE
  · rfl
  · rfl
theorem pf41_nilE : PF Tryz.prog 41 [.view (unRows [])] (fun r => r = .empty) := by
  refine pf_of_w0 Tryz.func41 (c := _) rfl rfl (Nat.le_of_ble_eq_true rfl) (fun x hx => by rcases List.mem_singleton.1 hx with rfl; exact unRows_pur []) ?_
  rw [show Tryz.f41.ntmps = 24 from rfl]
  have tE := aI uU <| tfT12.down; repeat' first | (refine Red.h ?_) | ((with_reducible first | apply wz tkT1 | apply wr_z tkT1); exact zZ; decide) | ((with_reducible first | apply wcall' | apply wr_call); exact zV; exact zVs; exact zAs; (focus (with_unfolding_all first | exact pf77_nilE)); decide) | fail
  all_goals try clear tE
  refine w_once ?_
  have tE := aI uU <| tfT12.down; repeat' first | (refine Red.h ?_) | ((with_reducible first | apply wz tkT1 | apply wr_z tkT1); exact zZ; decide) | ((with_reducible first | apply w_iff'); exact zV; exact zU) | ((with_reducible apply w_ret); (repeat refine Red.h ?_); (with_reducible apply done_ret tkT1); exact zT; exact zD; exact zX) | fail
  all_goals try clear tE
  rfl
def uz : Un := ⟨0, 0, 0, []⟩
def takU (c : Cf) (q : List Un) : List Un := if qok c q = true then q.tail else []
def tak1 (c : Cf) (q : List Un) : Un := if qok c q = true then q.headD uz else uz
def takE (c : Cf) (q : List Un) : Int := if qok c q = true then (if q.length = 0 then 6 else 0) else 8
theorem tk_pur (l : List Un) (u : Un) (e : Int) : Pur (.tuple [.view (unRows l), .agg u.cells, .int .i64 e]) := .tuple (fun x hx => by
  simp only [List.mem_cons, List.not_mem_nil, or_false] at hx
  rcases hx with rfl | rfl | rfl
  · exact unRows_pur _
  · exact .agg (un_pur u)
  · exact .int _ _)
theorem fz_uz (H : Heap) : Fz H (.agg [.int .u8 0, .int .i64 0, .int .i64 0, .empty]) (.agg uz.cells) :=
  FzL.agg (.cons (.pur (.int _ _)) (.cons (.pur (.int _ _)) (.cons (.pur (.int _ _)) (.cons .nothing .nil))))
theorem fz_uw {H : Heap} (u : Un) : Fz H (.agg [.int .u8 u.k, .int .i64 u.p, .int .i64 u.f, .view (byteRows u.d)]) (.agg u.cells) := .pur (.agg (un_pur u))
theorem un_lens (l : List Un) : ∀ x, x ∈ unRows l → x.length = 4 := fun x hx => by
  obtain ⟨v, _, rfl⟩ := List.mem_map.1 hx
  rfl
theorem fz_tail {H : Heap} {id : Nat} {cap : Option Nat} {sz : Nat} {r : List AV} {rows : List (List AV)} {e : TypeId} {len : Nat} (hlen : rows.length = len) (hl : ∀ x, x ∈ r :: rows → x.length = sz) (hp : Pur (.view (r :: rows))) (hH : H id = some (.cells (r :: rows).flatten e)) : Fz H (.slice id sz len cap sz) (.view rows) := by
  subst hlen
  have hr : r.length = sz := hl r (by simp)
  have h2 : ∀ x, x ∈ rows → x.length = sz := fun x hx => hl x (by simp [hx])
  have hfl := flat_len h2
  have hd : ((r :: rows).flatten).drop sz = rows.flatten := by rw [List.flatten_cons, List.drop_append_of_le_length (by omega), ← hr, List.drop_length, List.nil_append]
  have h := fz_slice_pur (H := H) (len := rows.length) (off := sz) (cap := cap) (sz := sz) hH (by rw [List.flatten_cons, List.length_append, hfl]; omega) (flat_pur hp)
  rw [hd, List.take_of_length_le (by rw [hfl]; exact Nat.le_refl _), chunk_flatten h2] at h
  exact h
theorem pf31_bad (c : Cf) (q : List Un) (hq : q.length ≤ 1000000) (h : qok c q = false) : PF Tryz.prog 31 [.agg c.cells, .view (unRows q)] (fun r => r = .tuple [.view (unRows []), .agg uz.cells, .int .i64 8]) := by
  have e1 : (if qok c q = true then (0 : Int) else 8) = 8 := if_neg (by rw [h]; simp)
  refine pf_of_wf0 Tryz.func31 (c := _) rfl rfl (Nat.le_of_ble_eq_true rfl) (args_cl c q) ?_
  rw [show Tryz.f31.ntmps = 34 from rfl]
  have tE := aI uU <| aI Cf.cells.eq_1 <| aI e1 <| aI ty3 <| aI ty4 <| aI ty5 <| aI ty23 <| aI ty27 <| aI ty28 <| aI ty34 <| aI ty58 <| aI ty98 <| Tryz.results31; repeat' first | (refine Red.h ?_) | ((with_reducible apply w_live (lvAt [[0, 1], [1, 2, 5], [1, 5, 7], [5, 7], [1, 5], [5, 8], [5, 8, 9], [5], [5, 8]])); (focus (simp only [lvAt_zero, lvAt_succ]; rfl)); exact zLv) | ((with_reducible first | apply wz tkT1 | apply wr_z tkT1); exact zZ; decide) | ((with_reducible first | apply w_alloc tkT1); exact zT; decide) | ((with_reducible first | apply wcall' | apply wr_call); exact zV; exact zVs; exact zAs; (focus (with_unfolding_all first | exact pf44 c q (by omega))); decide) | ((with_reducible first | apply w_ift'); exact zV; exact zU) | ((with_reducible first | apply fm_nil | apply fm_cons)) | ((with_reducible apply m_next); exact zU) | ((with_reducible apply m_nil0); exact zU) | ((with_reducible first | apply m_v tkT1); exact zU; exact zZ; decide) | ((with_reducible first | apply m_x tkT1); exact zU; (focus (decide +kernel)); exact zZ; decide) | ((with_reducible first | apply m_chg0); exact zU; (focus ((with_reducible apply c_store tkT1); exact zV; exact zV; exact zS))) | ((with_reducible apply w_drawN (id := 3) [3] [([3], [0, 2, 3, 1, 4])] mixed); (focus (decide +kernel))) | ((with_reducible apply w_ret); (repeat refine Red.h ?_); (with_reducible first | apply donef_ret tkT1 | apply doneA_ret tkT1); exact zT; exact zD) | fail
  all_goals try clear tE
  · exact FzL.tuple (ys := [.view [], .agg uz.cells, .int .i64 8]) (.cons .nothing (.cons (fz_uz _) (.cons (.pur (.int _ _)) .nil)))
  · exact tk_pur [] uz 8
  · rfl
theorem pf31_nil (c : Cf) (h : qok c [] = true) : PF Tryz.prog 31 [.agg c.cells, .view (unRows [])] (fun r => r = .tuple [.view (unRows []), .agg uz.cells, .int .i64 6]) := by
  have e1 : (if qok c [] = true then (0 : Int) else 8) = 0 := if_pos h
  refine pf_of_wf0 Tryz.func31 (c := _) rfl rfl (Nat.le_of_ble_eq_true rfl) (args_cl c []) ?_
  rw [show Tryz.f31.ntmps = 34 from rfl]
  have tE := aI uU <| aI Cf.cells.eq_1 <| aI e1 <| tfT13.down; repeat' first | (refine Red.h ?_) | ((with_reducible apply l_box (d := 20)); exact zV; exact zU; decide) | ((with_reducible first | apply wz tkT1 | apply wr_z tkT1); exact zZ; decide) | ((with_reducible first | apply w_alloc tkT1); exact zT; decide) | ((with_reducible first | apply w_store tkT1); exact zV; exact zV; exact zS) | ((with_reducible first | apply wcall' | apply wr_call); exact zV; exact zVs; exact zAs; (focus (with_unfolding_all first | exact pf44 c [] (by simp) | exact pf41_nilE)); decide) | ((with_reducible first | apply wl_inl); exact zV; exact zVs; exact zAs; (focus (first | exact Tryz.func54)); (focus (rfl)); (focus (rfl)); (focus (rfl)); (focus (exact Nat.le_of_ble_eq_true rfl)); decide) | ((with_reducible apply w_ret); (repeat refine Red.h ?_); (with_reducible apply inl_ret tkT1); exact zT; exact zD) | ((with_reducible first | apply w_ift'); exact zV; exact zU) | ((with_reducible first | apply w_iff'); exact zV; exact zU) | ((with_reducible first | apply fm_nil | apply fm_cons)) | ((with_reducible apply m_next); exact zU) | ((with_reducible apply m_nil0); exact zU) | ((with_reducible first | apply m_v tkT1); exact zU; exact zZ; decide) | ((with_reducible first | apply m_x tkT1); exact zU; (focus (decide +kernel)); exact zZ; decide) | ((with_reducible first | apply m_chg0); exact zU; (focus ((with_reducible apply c_store tkT1); exact zV; exact zV; exact zS))) | ((with_reducible apply w_drawN (id := 7) [2] [([2], [0, 1, 2, 3])] mixed); (focus (decide +kernel))) | ((with_reducible apply w_ret); (repeat refine Red.h ?_); (with_reducible first | apply donef_ret tkT1 | apply doneA_ret tkT1); exact zT; exact zD) | fail
  all_goals try clear tE
  · exact FzL.tuple (ys := [.view [], .agg uz.cells, .int .i64 6]) (.cons .nothing (.cons (fz_uz _) (.cons (.pur (.int _ _)) .nil)))
  · exact tk_pur [] uz 6
  · rfl
theorem pf31_ok (c : Cf) (u : Un) (q : List Un) (hq : (u :: q).length ≤ 1000000) (hd : ∀ x, x ∈ u :: q → x.d.length ≤ 1000000) (h : qok c (u :: q) = true) : PF Tryz.prog 31 [.agg c.cells, .view (unRows (u :: q))] (fun r => r = .tuple [.view (unRows q), .agg u.cells, .int .i64 0]) := by
  have e1 : (if qok c (u :: q) = true then (0 : Int) else 8) = 0 := if_pos h
  have t43 := ac41o (u :: q) (by simp) hq hd
  have t33 := pf44 c (u :: q) hq
  rw [List.length_cons] at t43 hq
  have hpos : ((0 : Int) < ((q.length + 1 : Nat) : Int)) = True := by simp; try omega
  have hgt : (((q.length + 1 : Nat) : Int) > 0) = True := by simp; try omega
  have hn : 1 ≤ q.length + 1 := by omega
  have ht4 : (unRows (u :: q)).flatten.take 4 = u.cells := by simp [unRows, Un.cells]
  have hl4 : (4 ≤ (unRows (u :: q)).flatten.length) = True := by rw [unFlat_len]; simp; try omega
  refine pf_of_wf0 Tryz.func31 (c := _) rfl rfl (Nat.le_of_ble_eq_true rfl) (args_cl c (u :: q)) ?_
  rw [show Tryz.f31.ntmps = 34 from rfl]
  have tE := aI uU <| aI Cf.cells.eq_1 <| aI Un.cells.eq_1 <| aI e1 <| aI hpos <| aI hgt <| aI ht4 <| aI hl4 <| tfT13.down; repeat' first | (refine Red.h ?_) | ((with_reducible apply l_box (d := 20)); exact zV; exact zU; decide) | ((with_reducible first | apply wz tkT1 | apply wr_z tkT1); exact zZ; decide) | ((with_reducible first | apply w_alloc tkT1); exact zT; decide) | ((with_reducible first | apply w_store tkT1); exact zV; exact zV; exact zS) | ((with_reducible first | apply wcall' | apply wr_call); exact zV; exact zVs; exact zAs; (focus (with_unfolding_all first | exact t33)); decide) | ((with_reducible first | apply m_p); exact zU; (focus (first | ((with_reducible first | apply p_slv tkT1); exact zT; exact zU; exact zT; exact zV; exact zN; exact zN; (focus (first | exact zU | exact zB)); (focus (first | exact zU | exact zB)); (focus (first | exact zU | assumption))) | ((with_reducible first | apply p_slo tkT1); exact zT; exact zU; exact zT; exact zV; exact zN; exact zN; (focus (first | exact zU | exact zB)); (focus (first | exact zU | exact zB)); (focus (first | exact zU | assumption))) | ((with_reducible first | apply p_nil tkT1 | apply p_nnil tkT1); exact zT; exact zV; exact zU) | ((with_reducible first | apply p_bs0 tkT1); exact zT; exact zU; exact zT) | ((with_reducible first | apply p_ap0 tkT1); exact zT; exact zU; exact zT; exact zT; exact zU; exact zA; exact zV; (focus (first | exact Or.inl rfl | exact Or.inr rfl))) | ((with_reducible first | apply p_bytes tkT1); exact zT; exact zU; exact zT; exact zU; exact zT; exact zU; exact zV))); decide) | ((with_reducible first | apply wacall'); exact zV; exact zVs; exact zAs; (focus (first | exact ⟨_, Tryz.func41, rfl, rfl⟩)); (focus (with_unfolding_all first | exact t43 _ _)); decide) | ((with_reducible first | apply wl_inl); exact zV; exact zVs; exact zAs; (focus (first | exact Tryz.func54)); (focus (rfl)); (focus (rfl)); (focus (rfl)); (focus (exact Nat.le_of_ble_eq_true rfl)); decide) | ((with_reducible apply w_ret); (repeat refine Red.h ?_); (with_reducible apply inl_ret tkT1); exact zT; exact zD) | ((with_reducible first | apply w_ift'); exact zV; exact zU) | ((with_reducible first | apply w_iff'); exact zV; exact zU) | ((with_reducible first | apply fm_nil | apply fm_cons)) | ((with_reducible apply m_next); exact zU) | ((with_reducible apply m_nil0); exact zU) | ((with_reducible first | apply m_v tkT1); exact zU; exact zZ; decide) | ((with_reducible first | apply m_xA tkT1); exact zU; exact zI; decide) | ((with_reducible first | apply m_x tkT1); exact zU; (focus (decide +kernel)); exact zZ; decide) | ((with_reducible first | apply m_xo tkT1); exact zU; exact zZ; decide) | ((with_reducible apply m_nilO); exact zU; (focus (simp only [List.reverse_cons, List.reverse_nil, List.nil_append, List.cons_append]; rfl)); (focus (simp only [OwedAll, Owed, Nat.reduceAdd]; (repeat' apply And.intro); all_goals first | exact trivial | (intro h; exact absurd h (by decide +kernel)) | (intro _; exact zW)))) | ((with_reducible first | apply m_chg0); exact zU; (focus ((with_reducible apply c_store tkT1); exact zV; exact zV; exact zS))) | ((with_reducible apply w_drawN (id := 8) [6] [([6], [4, 0, 1, 2, 3, 5, 6, 7])] mixed); (focus (decide +kernel))) | ((with_reducible apply w_drawN (id := 2) [12, 15] [([12, 15], [1, 2, 3, 4, 5, 6, 12, 0, 7, 8, 9, 10, 11, 13, 14, 15, 16])] mixed); (focus (decide +kernel))) | ((with_reducible apply w_ret); (repeat refine Red.h ?_); (with_reducible first | apply donef_ret tkT1 | apply doneA_ret tkT1); exact zT; exact zD) | fail
  all_goals try clear tE
  · refine FzL.tuple (ys := [.view (unRows q), .agg u.cells, .int .i64 0]) (.cons ?_ (.cons (fz_uw u) (.cons (.pur (.int _ _)) .nil)))
    refine fz_tail (r := u.cells) (e := 58) ?_ (un_lens (u :: q)) (unRows_pur (u :: q)) ?_
    · show (unRows q).length = q.length + 1 - 1
      simp [unRows, bnd]
    · rfl
  · exact tk_pur q u 0
  · rfl
theorem pf31 (c : Cf) (q : List Un) (hq : q.length ≤ 1000000) (hd : ∀ x, x ∈ q → x.d.length ≤ 1000000) : PF Tryz.prog 31 [.agg c.cells, .view (unRows q)] (fun r => r = .tuple [.view (unRows (takU c q)), .agg (tak1 c q).cells, .int .i64 (takE c q)]) := by
  cases h : qok c q with
  | false =>
    have e := pf31_bad c q hq h
    simpa [takU, tak1, takE, h] using e
  | true =>
    cases q with
    | nil => simpa [takU, tak1, takE, h] using pf31_nil c h
    | cons u q => simpa [takU, tak1, takE, h] using pf31_ok c u q hq hd h
end Go.Proofs.YtlmighkbeacjnaaGreatDoor

