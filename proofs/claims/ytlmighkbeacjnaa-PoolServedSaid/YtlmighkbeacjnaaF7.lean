/- The reference's copies. -/
import Derived.Test.YtlmighkbeacjnaaF6
open Go Go.Lg
set_option linter.unusedSimpArgs false
set_option linter.unusedVariables false
set_option maxHeartbeats 4000000
set_option maxRecDepth 20000
namespace Go.Proofs.Ytlmighkbeacjnaa
theorem own_bytes {H : Heap} {S : Nat → Prop} {id len : Nat} {b : List UInt8} (hS : S id) (hH : H id = some (.cells (byteRows b).flatten 5)) (hl : (byteRows b).length = len) : Own H S (.slice id 0 len none 1) (.view (byteRows b)) :=
  own_rows hS hH hl (byteRows_row b) ⟨rfl, fun i x y h1 h2 => by rw [h1] at h2; cases h2; exact (byteRows_flat b x (List.mem_of_getElem? h1)).own⟩
theorem own_ints {H : Heap} {S : Nat → Prop} {id len : Nat} {b : List Int} (hS : S id) (hH : H id = some (.cells (intRows b).flatten 3)) (hl : (intRows b).length = len) : Own H S (.slice id 0 len none 1) (.view (intRows b)) :=
  own_rows hS hH hl (intRows_row b) ⟨rfl, fun i x y h1 h2 => by rw [h1] at h2; cases h2; exact (intRows_flat b x (List.mem_of_getElem? h1)).own⟩
/-- The copy of one frame: an answer, and memory. -/
theorem ac51_0 (u : Fr) (hd : u.d.length ≤ 1000000) (hp : u.pins.length ≤ 1000000) : ∃ ab H0 n0, AC Try.prog 51 [.agg u.cells] (Lg.hl []) 0 (fun r H n' => r = .ret (.agg (oRow u ab)) ∧ H = H0 ∧ n' = n0) ∧ OwnAB H0 (fun _ => True) u ab ∧ ∀ id, n0 ≤ id → H0 id = none := by
  obtain ⟨k, p, d, pins, rf, dt⟩ := u
  have hrd := byteRows_row d
  have hrp := intRows_row pins
  have hld := byteRows_len d
  have hlp := intRows_len pins
  cases d with
  | nil =>
    have ed : byteRows [] = [] := rfl
    cases pins with
    | nil =>
      have ep : intRows [] = [] := rfl
      refine ⟨(.empty, .empty), ?_⟩
      apply Exists.intro; apply Exists.intro; apply And.intro
      · refine ac_of_w Try.func51 (c := _) rfl (Nat.le_of_ble_eq_true rfl) ?_
        rw [show Try.f51.ntmps = 14 from rfl]
        have tE := And.intro (@upd_upd AV) <| And.intro (@upd_upd (Option Blk)) <| And.intro Fr.cells.eq_1 <| And.intro ed <| And.intro ep <| And.intro ty3 <| And.intro ty4 <| And.intro ty5 <| And.intro ty34 <| And.intro ty35 <| And.intro ty37 <| Try.results51; repeat' first | ((with_reducible first | apply w_seq | apply w_region | apply wl_nil | apply wr_nil | apply wr_nilA | apply wr_nilE | apply go_normal | apply go_ret | apply go_exit | apply blk_normal | apply blk_ret | apply blk_here | apply w_block | apply w_skip | apply w_exit | apply w_label)) | ((with_reducible apply l_box (d := 1)); exact zV; exact zU; decide) | ((with_reducible first | apply wz (tok Try.prog) | apply wr_z (tok Try.prog)); exact zZ; decide) | ((with_reducible first | apply w_alloc (tok Try.prog)); exact zT; decide) | ((with_reducible first | apply w_store (tok Try.prog)); exact zV; exact zV; exact zS) | ((with_reducible first | apply wp | apply wr_p); (focus (first | ((with_reducible first | apply p_slv (tok Try.prog)); exact zT; exact zU; exact zT; exact zV; exact zN; exact zN; (focus (first | exact zU | exact zB)); (focus (first | exact zU | exact zB)); (focus (first | exact zU | assumption))) | ((with_reducible first | apply p_slo (tok Try.prog)); exact zT; exact zU; exact zT; exact zV; exact zN; exact zN; (focus (first | exact zU | exact zB)); (focus (first | exact zU | exact zB)); (focus (first | exact zU | assumption))) | ((with_reducible first | apply p_nil (tok Try.prog) | apply p_nnil (tok Try.prog)); exact zT; exact zV; exact zU) | ((with_reducible first | apply p_bs0 (tok Try.prog)); exact zT; exact zU; exact zT) | ((with_reducible first | apply p_ap0 (tok Try.prog)); exact zT; exact zU; exact zT; exact zT; exact zU; exact zA; exact zV; (focus (first | exact Or.inl rfl | exact Or.inr rfl))) | ((with_reducible first | apply p_bytes (tok Try.prog)); exact zT; exact zU; exact zT; exact zU; exact zT; exact zU; exact zV))); decide) | ((with_reducible apply w_ret); (repeat (with_reducible first | apply go_ret | apply blk_ret)); (with_reducible first | apply donef_ret (tok Try.prog) | apply doneA_ret (tok Try.prog)); exact zT; exact zD) | fail
        all_goals try clear tE
        exact ⟨rfl, rfl, rfl⟩
      · exact ⟨⟨.nothing, .nothing⟩, fun id h => by (repeat rw [upd_ne _ _ (by omega)]); rfl⟩
    | cons y pins =>
      rw [List.length_cons] at hlp
      simp only [List.length_cons] at hp
      refine ⟨(.empty, .slice 2 0 (pins.length + 1) none 1), ?_⟩
      apply Exists.intro; apply Exists.intro; apply And.intro
      · refine ac_of_w Try.func51 (c := _) rfl (Nat.le_of_ble_eq_true rfl) ?_
        rw [show Try.f51.ntmps = 14 from rfl]
        have tE := And.intro (@upd_upd AV) <| And.intro (@upd_upd (Option Blk)) <| And.intro Fr.cells.eq_1 <| And.intro ed <| And.intro hlp <| And.intro ty3 <| And.intro ty4 <| And.intro ty5 <| And.intro ty34 <| And.intro ty35 <| And.intro ty37 <| Try.results51; repeat' first | ((with_reducible first | apply w_seq | apply w_region | apply wl_nil | apply wr_nil | apply wr_nilA | apply wr_nilE | apply go_normal | apply go_ret | apply go_exit | apply blk_normal | apply blk_ret | apply blk_here | apply w_block | apply w_skip | apply w_exit | apply w_label)) | ((with_reducible apply l_box (d := 1)); exact zV; exact zU; decide) | ((with_reducible first | apply wz (tok Try.prog) | apply wr_z (tok Try.prog)); exact zZ; decide) | ((with_reducible first | apply w_alloc (tok Try.prog)); exact zT; decide) | ((with_reducible first | apply w_store (tok Try.prog)); exact zV; exact zV; exact zS) | ((with_reducible first | apply w_ap | apply wr_ap); (focus (first | (intro _ ho _ hr _; (with_reducible apply ap_new (tok Try.prog) ho (hr := hr)); exact zT; exact zU; exact zT; exact zT; exact zU; exact zA; exact zV; exact zK; exact zM; exact zK; exact zK; decide) | (intro _ ho _ hr _; (with_reducible apply ap_own (tok Try.prog) ho (hr := hr)); exact zT; exact zU; exact zT; exact zT; exact zU; exact zV; exact zV; exact zH; exact zKo; exact zM; (focus (first | rfl | assumption)); exact zKo; exact zKo; decide))); decide) | ((with_reducible first | apply wp | apply wr_p); (focus (first | ((with_reducible first | apply p_slv (tok Try.prog)); exact zT; exact zU; exact zT; exact zV; exact zN; exact zN; (focus (first | exact zU | exact zB)); (focus (first | exact zU | exact zB)); (focus (first | exact zU | assumption))) | ((with_reducible first | apply p_slo (tok Try.prog)); exact zT; exact zU; exact zT; exact zV; exact zN; exact zN; (focus (first | exact zU | exact zB)); (focus (first | exact zU | exact zB)); (focus (first | exact zU | assumption))) | ((with_reducible first | apply p_nil (tok Try.prog) | apply p_nnil (tok Try.prog)); exact zT; exact zV; exact zU) | ((with_reducible first | apply p_bs0 (tok Try.prog)); exact zT; exact zU; exact zT) | ((with_reducible first | apply p_ap0 (tok Try.prog)); exact zT; exact zU; exact zT; exact zT; exact zU; exact zA; exact zV; (focus (first | exact Or.inl rfl | exact Or.inr rfl))) | ((with_reducible first | apply p_bytes (tok Try.prog)); exact zT; exact zU; exact zT; exact zU; exact zT; exact zU; exact zV))); decide) | ((with_reducible apply w_ret); (repeat (with_reducible first | apply go_ret | apply blk_ret)); (with_reducible first | apply donef_ret (tok Try.prog) | apply doneA_ret (tok Try.prog)); exact zT; exact zD) | fail
        all_goals try clear tE
        exact ⟨rfl, rfl, rfl⟩
      · exact ⟨⟨.nothing, own_ints trivial rfl hlp⟩, fun id h => by (repeat rw [upd_ne _ _ (by omega)]); rfl⟩
  | cons x d =>
    rw [List.length_cons] at hld
    simp only [List.length_cons] at hd
    cases pins with
    | nil =>
      have ep : intRows [] = [] := rfl
      refine ⟨(.slice 2 0 (d.length + 1) none 1, .empty), ?_⟩
      apply Exists.intro; apply Exists.intro; apply And.intro
      · refine ac_of_w Try.func51 (c := _) rfl (Nat.le_of_ble_eq_true rfl) ?_
        rw [show Try.f51.ntmps = 14 from rfl]
        have tE := And.intro (@upd_upd AV) <| And.intro (@upd_upd (Option Blk)) <| And.intro Fr.cells.eq_1 <| And.intro hld <| And.intro ep <| And.intro ty3 <| And.intro ty4 <| And.intro ty5 <| And.intro ty34 <| And.intro ty35 <| And.intro ty37 <| Try.results51; repeat' first | ((with_reducible first | apply w_seq | apply w_region | apply wl_nil | apply wr_nil | apply wr_nilA | apply wr_nilE | apply go_normal | apply go_ret | apply go_exit | apply blk_normal | apply blk_ret | apply blk_here | apply w_block | apply w_skip | apply w_exit | apply w_label)) | ((with_reducible apply l_box (d := 1)); exact zV; exact zU; decide) | ((with_reducible first | apply wz (tok Try.prog) | apply wr_z (tok Try.prog)); exact zZ; decide) | ((with_reducible first | apply w_alloc (tok Try.prog)); exact zT; decide) | ((with_reducible first | apply w_store (tok Try.prog)); exact zV; exact zV; exact zS) | ((with_reducible first | apply w_ap | apply wr_ap); (focus (first | (intro _ ho _ hr _; (with_reducible apply ap_new (tok Try.prog) ho (hr := hr)); exact zT; exact zU; exact zT; exact zT; exact zU; exact zA; exact zV; exact zK; exact zM; exact zK; exact zK; decide) | (intro _ ho _ hr _; (with_reducible apply ap_own (tok Try.prog) ho (hr := hr)); exact zT; exact zU; exact zT; exact zT; exact zU; exact zV; exact zV; exact zH; exact zKo; exact zM; (focus (first | rfl | assumption)); exact zKo; exact zKo; decide))); decide) | ((with_reducible first | apply wp | apply wr_p); (focus (first | ((with_reducible first | apply p_slv (tok Try.prog)); exact zT; exact zU; exact zT; exact zV; exact zN; exact zN; (focus (first | exact zU | exact zB)); (focus (first | exact zU | exact zB)); (focus (first | exact zU | assumption))) | ((with_reducible first | apply p_slo (tok Try.prog)); exact zT; exact zU; exact zT; exact zV; exact zN; exact zN; (focus (first | exact zU | exact zB)); (focus (first | exact zU | exact zB)); (focus (first | exact zU | assumption))) | ((with_reducible first | apply p_nil (tok Try.prog) | apply p_nnil (tok Try.prog)); exact zT; exact zV; exact zU) | ((with_reducible first | apply p_bs0 (tok Try.prog)); exact zT; exact zU; exact zT) | ((with_reducible first | apply p_ap0 (tok Try.prog)); exact zT; exact zU; exact zT; exact zT; exact zU; exact zA; exact zV; (focus (first | exact Or.inl rfl | exact Or.inr rfl))) | ((with_reducible first | apply p_bytes (tok Try.prog)); exact zT; exact zU; exact zT; exact zU; exact zT; exact zU; exact zV))); decide) | ((with_reducible apply w_ret); (repeat (with_reducible first | apply go_ret | apply blk_ret)); (with_reducible first | apply donef_ret (tok Try.prog) | apply doneA_ret (tok Try.prog)); exact zT; exact zD) | fail
        all_goals try clear tE
        exact ⟨rfl, rfl, rfl⟩
      · exact ⟨⟨own_bytes trivial rfl hld, .nothing⟩, fun id h => by (repeat rw [upd_ne _ _ (by omega)]); rfl⟩
    | cons y pins =>
      rw [List.length_cons] at hlp
      simp only [List.length_cons] at hp
      refine ⟨(.slice 2 0 (d.length + 1) none 1, .slice 3 0 (pins.length + 1) none 1), ?_⟩
      apply Exists.intro; apply Exists.intro; apply And.intro
      · refine ac_of_w Try.func51 (c := _) rfl (Nat.le_of_ble_eq_true rfl) ?_
        rw [show Try.f51.ntmps = 14 from rfl]
        have tE := And.intro (@upd_upd AV) <| And.intro (@upd_upd (Option Blk)) <| And.intro Fr.cells.eq_1 <| And.intro hld <| And.intro hlp <| And.intro ty3 <| And.intro ty4 <| And.intro ty5 <| And.intro ty34 <| And.intro ty35 <| And.intro ty37 <| Try.results51; repeat' first | ((with_reducible first | apply w_seq | apply w_region | apply wl_nil | apply wr_nil | apply wr_nilA | apply wr_nilE | apply go_normal | apply go_ret | apply go_exit | apply blk_normal | apply blk_ret | apply blk_here | apply w_block | apply w_skip | apply w_exit | apply w_label)) | ((with_reducible apply l_box (d := 1)); exact zV; exact zU; decide) | ((with_reducible first | apply wz (tok Try.prog) | apply wr_z (tok Try.prog)); exact zZ; decide) | ((with_reducible first | apply w_alloc (tok Try.prog)); exact zT; decide) | ((with_reducible first | apply w_store (tok Try.prog)); exact zV; exact zV; exact zS) | ((with_reducible first | apply w_ap | apply wr_ap); (focus (first | (intro _ ho _ hr _; (with_reducible apply ap_new (tok Try.prog) ho (hr := hr)); exact zT; exact zU; exact zT; exact zT; exact zU; exact zA; exact zV; exact zK; exact zM; exact zK; exact zK; decide) | (intro _ ho _ hr _; (with_reducible apply ap_own (tok Try.prog) ho (hr := hr)); exact zT; exact zU; exact zT; exact zT; exact zU; exact zV; exact zV; exact zH; exact zKo; exact zM; (focus (first | rfl | assumption)); exact zKo; exact zKo; decide))); decide) | ((with_reducible first | apply wp | apply wr_p); (focus (first | ((with_reducible first | apply p_slv (tok Try.prog)); exact zT; exact zU; exact zT; exact zV; exact zN; exact zN; (focus (first | exact zU | exact zB)); (focus (first | exact zU | exact zB)); (focus (first | exact zU | assumption))) | ((with_reducible first | apply p_slo (tok Try.prog)); exact zT; exact zU; exact zT; exact zV; exact zN; exact zN; (focus (first | exact zU | exact zB)); (focus (first | exact zU | exact zB)); (focus (first | exact zU | assumption))) | ((with_reducible first | apply p_nil (tok Try.prog) | apply p_nnil (tok Try.prog)); exact zT; exact zV; exact zU) | ((with_reducible first | apply p_bs0 (tok Try.prog)); exact zT; exact zU; exact zT) | ((with_reducible first | apply p_ap0 (tok Try.prog)); exact zT; exact zU; exact zT; exact zT; exact zU; exact zA; exact zV; (focus (first | exact Or.inl rfl | exact Or.inr rfl))) | ((with_reducible first | apply p_bytes (tok Try.prog)); exact zT; exact zU; exact zT; exact zU; exact zT; exact zU; exact zV))); decide) | ((with_reducible apply w_ret); (repeat (with_reducible first | apply go_ret | apply blk_ret)); (with_reducible first | apply donef_ret (tok Try.prog) | apply doneA_ret (tok Try.prog)); exact zT; exact zD) | fail
        all_goals try clear tE
        exact ⟨rfl, rfl, rfl⟩
      · exact ⟨⟨own_bytes trivial rfl hld, own_ints trivial rfl hlp⟩, fun id h => by (repeat rw [upd_ne _ _ (by omega)]); rfl⟩
theorem cal51 : Callable Try.prog 51 := ⟨_, Try.func51, rfl, rfl⟩
theorem nf51 (u : Fr) (hd : u.d.length ≤ 1000000) (hp : u.pins.length ≤ 1000000) : NF Try.prog 51 [.agg u.cells] (fun r => r = .agg u.cells) := by
  obtain ⟨ab, H0, n0, h1, ⟨h2, h3⟩, _⟩ := ac51_0 u hd hp
  refine nf_of_0 cal51 (args_1 (fra_pur u)) (h1.mono ?_)
  rintro r H n ⟨rfl, rfl, rfl⟩
  exact ⟨_, _, rfl, OwnL.agg (.cons (.int _ _) (.cons (.int _ _) (.cons h2 (.cons h3 (.cons (.bool _) (.cons (.bool _) .nil)))))), rfl⟩
theorem sh_oRow (n : Nat) (u : Fr) (ab : AV × AV) : sh n (.agg (oRow u ab)) = .agg (oRow u (shP n ab)) := by simp [sh, shL, oRow, shP]
theorem ownAB_sh {n : Nat} {S : Nat → Prop} {H : Heap} {u : Fr} {ab : AV × AV} (h : OwnAB H S u ab) : OwnAB (shH n H) (shS n S) u (shP n ab) := ⟨own_sh h.1, own_sh h.2⟩
theorem ac51 (u : Fr) (hd : u.d.length ≤ 1000000) (hp : u.pins.length ≤ 1000000) : ∃ ab H0 n0, OwnAB H0 (fun _ => True) u ab ∧ (∀ id, n0 ≤ id → H0 id = none) ∧ ∀ H n, AC Try.prog 51 [.agg u.cells] H n (fun r H' n' => r = .ret (.agg (oRow u (shP n ab))) ∧ H' = (shH n H0).or H ∧ n' = n + n0) := by
  obtain ⟨ab, H0, n0, h1, h2, h3⟩ := ac51_0 u hd hp
  refine ⟨ab, H0, n0, h2, h3, fun H n => ?_⟩
  have := ac_det (args_1 (fra_pur u)) h1 H n
  rwa [sh_oRow] at this
/-- What the reference's Twin holds in its loop. -/
def outT (i o : Nat) : AV := if i = 0 then .empty else .slice o 0 i none 6
structure RtI (f : Fs) (i o : Nat) (m : List (AV × AV)) (H : Heap) (k : Nat) : Prop where
  le : i ≤ f.l.length
  len : m.length = i
  h0 : H 0 = some (.cells [.empty, .int .i64 (Int.ofNat 0)] 26)
  h1 : H 1 = some (.cells [outT i o, .int .i64 f.h] 26)
  h2 : 0 < i → 2 ≤ o ∧ o < k ∧ H o = some (.cells (oRows (f.l.take i) m).flatten 37)
  k2 : 2 ≤ k
  own : ∀ (j : Nat) u ab, f.l[j]? = some u → m[j]? = some ab → OwnAB H (fun x => 2 ≤ x ∧ x ≠ o) u ab
  top : ∀ id, k ≤ id → H id = none
theorem rt_step {f : Fs} {i o : Nat} {m : List (AV × AV)} {H X H0 : Heap} {k n0 : Nat} {u : Fr} {ab : AV × AV} (hI : RtI f i o m H k) (hu : f.l[i]? = some u) (ho1 : OwnAB H0 (fun _ => True) u ab) (ho2 : ∀ id, n0 ≤ id → H0 id = none)
    (hX : ∀ id, id ≠ o ∨ i = 0 → X id = ((shH k H0).or H) id) :
    RtI f (i + 1) (k + n0) (m ++ [shP k ab]) (upd (upd X (k + n0) (some (.cells (oRows (f.l.take (i + 1)) (m ++ [shP k ab])).flatten 37))) 1 (some (.cells [.slice (k + n0) 0 (i + 1) none 6, .int .i64 f.h] 26))) (k + n0 + 1) := by
  obtain ⟨hi, hm, e0, e1, e2, hk, hown, htop⟩ := hI
  have hil := (List.getElem?_eq_some_iff.1 hu).1
  have o2 : ∀ id, id ≤ 1 → id ≠ o ∨ i = 0 := fun id hid => by
    rcases Nat.eq_zero_or_pos i with h | h
    · exact .inr h
    · have := (e2 h).1; exact .inl (by omega)
  have keep : ∀ id b, 2 ≤ id ∧ id ≠ o → H id = some b → (2 ≤ id ∧ id ≠ k + n0) ∧ upd (upd X (k + n0) (some (.cells (oRows (f.l.take (i + 1)) (m ++ [shP k ab])).flatten 37))) 1 (some (.cells [.slice (k + n0) 0 (i + 1) none 6, .int .i64 f.h] 26)) id = some b := fun id b h3 hb => by
    have : id < k := by
      rcases Nat.lt_or_ge id k with h | h
      · exact h
      · rw [htop id h] at hb; cases hb
    refine ⟨⟨h3.1, by omega⟩, ?_⟩
    rw [upd_ne _ _ (by omega), upd_ne _ _ (by omega), hX id (.inl h3.2), or_old this]; exact hb
  have keep2 : ∀ id b, shS k (fun _ => True) id → shH k H0 id = some b → (2 ≤ id ∧ id ≠ k + n0) ∧ upd (upd X (k + n0) (some (.cells (oRows (f.l.take (i + 1)) (m ++ [shP k ab])).flatten 37))) 1 (some (.cells [.slice (k + n0) 0 (i + 1) none 6, .int .i64 f.h] 26)) id = some b := fun id b h3 hb => by
    have hlt : id < k + n0 := by
      rcases Nat.lt_or_ge id (k + n0) with h | h
      · exact h
      · obtain ⟨_, cs, e, hh, _⟩ := shH_inv hb
        rw [ho2 _ (by omega)] at hh; cases hh
    have hk3 := h3.1
    refine ⟨⟨by omega, by omega⟩, ?_⟩
    rw [upd_ne _ _ (by omega), upd_ne _ _ (by omega), hX id (by rcases Nat.eq_zero_or_pos i with h | h; exact .inr h; exact .inl (by have := (e2 h).2.1; omega))]
    simp [Heap.or, hb]
  refine ⟨by omega, by simp [hm], ?_, ?_, fun _ => ⟨by omega, by omega, ?_⟩, by omega, fun j v w hv hw => ?_, fun id hid => ?_⟩
  · rw [upd_ne _ _ (by decide), upd_ne _ _ (by omega), hX 0 (o2 0 (by decide)), or_old (by omega)]; exact e0
  · rw [upd_same]; simp [outT]
  · rw [upd_ne _ _ (by omega), upd_same]
  · rcases Nat.lt_or_ge j i with hj | hj
    · rw [List.getElem?_append_left (by omega)] at hw
      have h := hown j v w hv hw
      exact ⟨h.1.mv keep, h.2.mv keep⟩
    · obtain rfl : j = i := by
        have := (List.getElem?_eq_some_iff.1 hw).1
        simp at this; omega
      rw [hu] at hv; cases hv
      rw [List.getElem?_append_right (by omega), hm, Nat.sub_self] at hw
      cases hw
      have h := ownAB_sh (n := k) ho1
      exact ⟨h.1.mv keep2, h.2.mv keep2⟩
  · rw [upd_ne _ _ (by omega), upd_ne _ _ (by omega), hX id (by rcases Nat.eq_zero_or_pos i with h | h; exact .inr h; exact .inl (by have := (e2 h).2.1; omega))]
    have h1 : shH k H0 id = none := by
      cases hh : shH k H0 id with
      | none => rfl
      | some b =>
        obtain ⟨_, cs, e, hh, _⟩ := shH_inv hh
        rw [ho2 _ (by omega)] at hh; cases hh
    simp only [Heap.or, h1]
    exact htop id (by omega)
theorem ac14_0 (f : Fs) (hl : f.l.length ≤ 1000000) (hd : ∀ x, x ∈ f.l → x.d.length ≤ 1000000 ∧ x.pins.length ≤ 1000000) : AC Try.prog 14 [.agg f.cells] (Lg.hl []) 0 (fun r H _ => ∃ x, r = .ret x ∧ ∃ a, x = .agg [a, .int .i64 f.h] ∧ OwnF H (fun _ => True) f a) := by
  refine ac_of_w Try.func14 (c := _) rfl (Nat.le_of_ble_eq_true rfl) ?_
  rw [show Try.f14.ntmps = 27 from rfl]
  have hcv : Pur (.vptr f.cells) := .vptr (fs_pur f)
  have tE := And.intro (@upd_upd AV) <| And.intro (@upd_upd (Option Blk)) <| And.intro Fs.cells.eq_1 <| And.intro ty3 <| And.intro ty4 <| And.intro ty5 <| And.intro ty24 <| And.intro ty26 <| And.intro ty34 <| And.intro ty35 <| And.intro ty37 <| Try.results14; repeat' first | ((with_reducible first | apply w_seq | apply w_region | apply wl_nil | apply wr_nil | apply wr_nilA | apply wr_nilE | apply go_normal | apply go_ret | apply go_exit | apply blk_normal | apply blk_ret | apply blk_here | apply w_block | apply w_skip | apply w_exit | apply w_label)) | ((with_reducible first | apply wz (tok Try.prog) | apply wr_z (tok Try.prog)); exact zZ; decide) | ((with_reducible first | apply w_alloc (tok Try.prog)); exact zT; decide) | ((with_reducible first | apply w_store (tok Try.prog)); exact zV; exact zV; exact zS) | fail
  all_goals try clear tE
  refine w_loopP (S := Nat × Nat × List (AV × AV)) (fun s => [(1, .vptr f.cells), (2, .ptr 0 0), (3, .ptr 1 0), (4, .int .i64 (s.1 : Int))]) [] (fun s H k => RtI f s.1 s.2.1 s.2.2 H k) (fun s => f.l.length - s.1) (0, 0, []) ?_ rfl ?_ ?_
  · (have tE := And.intro (@upd_upd AV) <| And.intro (@upd_upd (Option Blk)) <| Fs.cells.eq_1; simp only [fitsT, List.take_zero, List.length_nil, sp_cons, sp_nil, upd_b, Nat.reduceBEq, cond_true, cond_false, args0_zero, args0_succ, args0_nil, tE]; repeat' first | exact trivial | apply And.intro | exact Sub.refl _ | exact Sub.cap)
  · refine ⟨Nat.zero_le _, rfl, rfl, rfl, fun h => absurd h (Nat.lt_irrefl 0), Nat.le_refl _, fun j u ab _ h => by simp at h, fun id hid => ?_⟩
    match id, hid with
    | id + 2, _ => rfl
  · rintro ⟨i, o, m⟩ H k hI
    obtain ⟨hi, hm, e0, e1, e2, hk, hown, htop⟩ := hI
    simp only at hi hm e0 e1 e2 hk hown htop
    have hw : IntKind.i64.wrap ((i : Int) + 1) = ((i + 1 : Nat) : Int) := by rw [wrap64 (by omega) (by omega)]; rfl
    have g0 : (0 ≤ (i : Int)) = True := by simp
    by_cases e : i < f.l.length
    · have g1 : ((i : Int) < (f.l.length : Int)) = True := by simp; omega
      obtain ⟨u, hu⟩ : ∃ u, f.l[i]? = some u := ⟨f.l[i], List.getElem?_eq_getElem e⟩
      have hr := fr_row hu
      have hdu := hd u (List.mem_of_getElem? hu)
      obtain ⟨ab, H0, n0, ho1, ho2, h51⟩ := ac51 u hdu.1 hdu.2
      have q1 : ((shH k H0).or H) 1 = H 1 := or_old (by omega)
      by_cases hz : i = 0
      · subst hz
        have e1' : H 1 = some (.cells [.empty, .int .i64 f.h] 26) := e1
        have p1 : ((1 : Nat) == k + n0) = false := by rw [beq_eq_false_iff_ne]; omega
        have p2 : ((1 : Nat) == k + n0 + 1) = false := by rw [beq_eq_false_iff_ne]; omega
        have p3 : (k + n0 == k + n0 + 1) = false := by rw [beq_eq_false_iff_ne]; omega
        have tE := And.intro (@upd_upd AV) <| And.intro (@upd_upd (Option Blk)) <| And.intro g1 <| And.intro g0 <| And.intro hw <| And.intro hr <| And.intro e1' <| And.intro q1 <| And.intro p1 <| And.intro p2 <| And.intro p3 <| And.intro Fs.cells.eq_1 <| And.intro Fr.cells.eq_1 <| And.intro frRows_len <| And.intro oRow.eq_1 <| And.intro ty3 <| And.intro ty4 <| And.intro ty5 <| And.intro ty24 <| And.intro ty26 <| And.intro ty34 <| And.intro ty35 <| And.intro ty37 <| Try.results14; repeat' first | ((with_reducible first | apply w_seq | apply w_region | apply wl_nil | apply wr_nil | apply wr_nilA | apply wr_nilE | apply go_normal | apply go_ret | apply go_exit | apply blk_normal | apply blk_ret | apply blk_here | apply w_block | apply w_skip | apply w_exit | apply w_label)) | ((with_reducible apply w_live (lvAt [[0], [1, 2], [1, 2, 3], [1, 2, 3, 4], [1, 2, 3, 4], [1, 2, 3, 4], [2, 3]])); (focus (simp only [lvAt_zero, lvAt_succ]; rfl)); exact zLv) | ((with_reducible first | apply wz (tok Try.prog) | apply wr_z (tok Try.prog)); exact zZ; decide) | ((with_reducible first | apply m_calle); exact zU; exact zV; exact zVs; exact zAs; (focus (first | exact ⟨_, Try.func51, rfl, rfl⟩)); (focus (with_unfolding_all first | exact h51 _ _)); decide) | ((with_reducible first | apply w_ift'); exact zV; exact zU) | ((with_reducible first | apply fm_nil | apply fm_cons)) | ((with_reducible apply m_next); exact zU) | ((with_reducible first | apply m_v (tok Try.prog)); exact zU; exact zZ; decide) | ((with_reducible first | apply m_xA (tok Try.prog)); exact zU; exact zI; decide) | ((with_reducible first | apply m_xo (tok Try.prog)); exact zU; exact zZ; decide) | ((with_reducible apply m_nilO); exact zU; (focus (simp only [List.reverse_cons, List.reverse_nil, List.nil_append, List.cons_append]; rfl)); (focus (simp only [OwedAll, Owed, Nat.reduceAdd]; (repeat' apply And.intro); all_goals first | exact trivial | (intro h; exact absurd h (by decide +kernel)) | (intro _; exact zW)))) | ((with_reducible first | apply m_chg); exact zU; (focus (first | ((with_reducible apply c_alloc (tok Try.prog)); exact zT) | ((with_reducible apply c_ap); (focus (first | (intro _ ho _ hr _; (with_reducible apply ap_new (tok Try.prog) ho (hr := hr)); exact zT; exact zU; exact zT; exact zT; exact zU; exact zA; exact zV; exact zK; exact zM; exact zK; exact zK; decide) | (intro _ ho _ hr _; (with_reducible apply ap_own (tok Try.prog) ho (hr := hr)); exact zT; exact zU; exact zT; exact zT; exact zU; exact zV; exact zV; exact zH; exact zKo; exact zM; (focus (first | rfl | assumption)); exact zKo; exact zKo; decide)))))); decide) | ((with_reducible first | apply m_chg0); exact zU; (focus ((with_reducible apply c_store (tok Try.prog)); exact zV; exact zV; exact zS))) | ((with_reducible first | apply m_p); exact zU; (focus (first | ((with_reducible first | apply pure_bs1 (tok Try.prog)); exact zT; exact zU; exact zT; exact zP; exact zR; exact zC; decide; decide; exact zU; exact zU) | ((with_reducible first | apply pure_bs1 (tok Try.prog)); exact zT; exact zU; exact zT; exact zP; exact zR; exact zC; decide; decide; exact zU; exact zU))); decide) | ((with_reducible apply w_drawN (id := 5) [7, 9, 11] [([7, 9, 11], [2, 3, 4, 5, 6, 7, 0, 1, 8, 9, 10, 11])] mixed); (focus (decide +kernel))) | fail
        all_goals try clear tE
        have hst := rt_step (f := f) (i := 0) (o := o) (m := m) (H := H) (X := (shH k H0).or H) (k := k) ⟨hi, hm, e0, e1, e2, hk, hown, htop⟩ hu ho1 ho2 (fun id _ => rfl)
        refine ⟨(1, k + n0, m ++ [shP k ab]), by simp only; omega, ?_, rfl, ?_⟩
        · have em : m = [] := List.eq_nil_of_length_eq_zero hm
          have et : f.l.take 1 = [u] := by rw [List.take_add_one, hu]; rfl
          rw [em, et] at hst
          rw [em]
          exact hst
        · (have tE := And.intro (@upd_upd AV) <| And.intro (@upd_upd (Option Blk)) <| And.intro hw <| Fs.cells.eq_1; simp only [fitsT, List.take_zero, List.length_nil, sp_cons, sp_nil, upd_b, Nat.reduceBEq, cond_true, cond_false, args0_zero, args0_succ, args0_nil, tE]; repeat' first | exact trivial | apply And.intro | exact Sub.refl _ | exact Sub.cap)
      · have e1' : H 1 = some (.cells [.slice o 0 i none 6, .int .i64 f.h] 26) := by rw [e1, outT, if_neg hz]
        obtain ⟨ho, hok, e3⟩ := e2 (by omega)
        have q2 : ((shH k H0).or H) o = H o := or_old hok
        have p1 : ((1 : Nat) == k + n0) = false := by rw [beq_eq_false_iff_ne]; omega
        have p2 : ((1 : Nat) == k + n0 + 1) = false := by rw [beq_eq_false_iff_ne]; omega
        have p3 : (k + n0 == k + n0 + 1) = false := by rw [beq_eq_false_iff_ne]; omega
        have p4 : (1 == o) = false := by rw [beq_eq_false_iff_ne]; omega
        have hsa := ownAB_sh (n := k) ho1
        have hsc : [[AV.int .u8 u.k, .int .i64 u.p, (shP k ab).1, (shP k ab).2, .bool u.rf, .bool u.dt]].flatten.all scalA = true := by simp only [List.flatten_cons, List.flatten_nil, List.append_nil, List.all_cons, List.all_nil, (own_scal hsa.1).1, (own_scal hsa.2).1]; rfl
        have hfl : (oRows (f.l.take i) m).flatten.length = i * 6 := by rw [oFlat_len (by rw [List.length_take]; omega), List.length_take, Nat.min_eq_left hi]
        have tE := And.intro (@upd_upd AV) <| And.intro (@upd_upd (Option Blk)) <| And.intro g1 <| And.intro g0 <| And.intro hw <| And.intro hr <| And.intro e1' <| And.intro q1 <| And.intro q2 <| And.intro e3 <| And.intro p1 <| And.intro p2 <| And.intro p3 <| And.intro p4 <| And.intro hfl <| And.intro Fs.cells.eq_1 <| And.intro Fr.cells.eq_1 <| And.intro frRows_len <| And.intro oRow.eq_1 <| And.intro ty3 <| And.intro ty4 <| And.intro ty5 <| And.intro ty24 <| And.intro ty26 <| And.intro ty34 <| And.intro ty35 <| And.intro ty37 <| Try.results14; repeat' first | ((with_reducible first | apply w_seq | apply w_region | apply wl_nil | apply wr_nil | apply wr_nilA | apply wr_nilE | apply go_normal | apply go_ret | apply go_exit | apply blk_normal | apply blk_ret | apply blk_here | apply w_block | apply w_skip | apply w_exit | apply w_label)) | ((with_reducible apply w_live (lvAt [[0], [1, 2], [1, 2, 3], [1, 2, 3, 4], [1, 2, 3, 4], [1, 2, 3, 4], [2, 3]])); (focus (simp only [lvAt_zero, lvAt_succ]; rfl)); exact zLv) | ((with_reducible first | apply wz (tok Try.prog) | apply wr_z (tok Try.prog)); exact zZ; decide) | ((with_reducible first | apply m_calle); exact zU; exact zV; exact zVs; exact zAs; (focus (first | exact ⟨_, Try.func51, rfl, rfl⟩)); (focus (with_unfolding_all first | exact h51 _ _)); decide) | ((with_reducible first | apply w_ift'); exact zV; exact zU) | ((with_reducible first | apply fm_nil | apply fm_cons)) | ((with_reducible apply m_next); exact zU) | ((with_reducible first | apply m_v (tok Try.prog)); exact zU; exact zZ; decide) | ((with_reducible first | apply m_xA (tok Try.prog)); exact zU; exact zI; decide) | ((with_reducible first | apply m_xo (tok Try.prog)); exact zU; exact zZ; decide) | ((with_reducible apply m_nilO); exact zU; (focus (simp only [List.reverse_cons, List.reverse_nil, List.nil_append, List.cons_append]; rfl)); (focus (simp only [OwedAll, Owed, Nat.reduceAdd]; (repeat' apply And.intro); all_goals first | exact trivial | (intro h; exact absurd h (by decide +kernel)) | (intro _; exact zW)))) | ((with_reducible first | apply m_chg); exact zU; (focus (first | ((with_reducible apply c_alloc (tok Try.prog)); exact zT) | ((with_reducible apply c_ap); (focus (first | (intro _ ho _ hr _; (with_reducible apply ap_new (tok Try.prog) ho (hr := hr)); exact zT; exact zU; exact zT; exact zT; exact zU; exact zA; exact zV; exact zK; exact zM; exact zK; exact zK; decide) | (intro _ ho _ hr _; (with_reducible apply ap_own (tok Try.prog) ho (hr := hr)); exact zT; exact zU; exact zT; exact zT; exact zU; exact zV; exact zV; exact zH; exact zKo; exact zM; (focus (first | rfl | assumption)); exact zKo; exact zKo; decide)))))); decide) | ((with_reducible first | apply m_chg0); exact zU; (focus ((with_reducible apply c_store (tok Try.prog)); exact zV; exact zV; exact zS))) | ((with_reducible first | apply m_p); exact zU; (focus (first | ((with_reducible first | apply pure_bs1 (tok Try.prog)); exact zT; exact zU; exact zT; exact zP; exact zR; exact zC; decide; decide; exact zU; exact zU) | ((with_reducible first | apply pure_bs1 (tok Try.prog)); exact zT; exact zU; exact zT; exact zP; exact zR; exact zC; decide; decide; exact zU; exact zU))); decide) | ((with_reducible apply w_drawN (id := 5) [7, 9, 11] [([7, 9, 11], [2, 3, 4, 5, 6, 7, 0, 1, 8, 9, 10, 11])] mixed); (focus (decide +kernel))) | fail
        all_goals try clear tE
        have hst := rt_step (f := f) (i := i) (o := o) (m := m) (H := H) (X := upd ((shH k H0).or H) o none) (k := k) ⟨hi, hm, e0, e1, e2, hk, hown, htop⟩ hu ho1 ho2 (fun id h => upd_ne _ _ (h.resolve_right hz))
        refine ⟨(i + 1, k + n0, m ++ [shP k ab]), by simp only; omega, ?_, rfl, ?_⟩
        · have em : (oRows (f.l.take i) m).flatten ++ [AV.int .u8 u.k, .int .i64 u.p, (shP k ab).1, (shP k ab).2, .bool u.rf, .bool u.dt] = (oRows (f.l.take (i + 1)) (m ++ [shP k ab])).flatten := by
            rw [List.take_add_one, hu, oRows, oRows, Option.toList_some, List.zipWith_append (by rw [List.length_take]; omega), List.flatten_append]
            rfl
          rw [← em] at hst
          exact hst
        · (have tE := And.intro (@upd_upd AV) <| And.intro (@upd_upd (Option Blk)) <| And.intro hw <| Fs.cells.eq_1; simp only [fitsT, List.take_zero, List.length_nil, sp_cons, sp_nil, upd_b, Nat.reduceBEq, cond_true, cond_false, args0_zero, args0_succ, args0_nil, tE]; repeat' first | exact trivial | apply And.intro | exact Sub.refl _ | exact Sub.cap)
    · have g1 : ((i : Int) < (f.l.length : Int)) = False := by simp; omega
      have ei : i = f.l.length := by omega
      subst ei
      rcases Nat.eq_zero_or_pos f.l.length with hz | hz
      · have e1' : H 1 = some (.cells [.empty, .int .i64 f.h] 26) := by rw [e1, outT, if_pos hz]
        have tE := And.intro (@upd_upd AV) <| And.intro (@upd_upd (Option Blk)) <| And.intro g1 <| And.intro g0 <| And.intro hw <| And.intro e0 <| And.intro e1' <| And.intro Fs.cells.eq_1 <| And.intro frRows_len <| And.intro ty3 <| And.intro ty4 <| And.intro ty5 <| And.intro ty24 <| And.intro ty26 <| And.intro ty34 <| And.intro ty35 <| And.intro ty37 <| Try.results14; repeat' first | ((with_reducible first | apply w_seq | apply w_region | apply wl_nil | apply wr_nil | apply wr_nilA | apply wr_nilE | apply go_normal | apply go_ret | apply go_exit | apply blk_normal | apply blk_ret | apply blk_here | apply w_block | apply w_skip | apply w_exit | apply w_label)) | ((with_reducible first | apply wz (tok Try.prog) | apply wr_z (tok Try.prog)); exact zZ; decide) | ((with_reducible first | apply w_store (tok Try.prog)); exact zV; exact zV; exact zS) | ((with_reducible first | apply w_iff'); exact zV; exact zU) | ((with_reducible apply w_ret); (repeat (with_reducible first | apply go_ret | apply blk_ret)); (with_reducible first | apply donef_ret (tok Try.prog) | apply doneA_ret (tok Try.prog)); exact zT; exact zD) | fail
        all_goals try clear tE
        exact ⟨_, rfl, _, rfl, .inl ⟨List.eq_nil_of_length_eq_zero hz, rfl⟩⟩
      · have e1' : H 1 = some (.cells [.slice o 0 f.l.length none 6, .int .i64 f.h] 26) := by rw [e1, outT, if_neg (by omega)]
        have tE := And.intro (@upd_upd AV) <| And.intro (@upd_upd (Option Blk)) <| And.intro g1 <| And.intro g0 <| And.intro hw <| And.intro e0 <| And.intro e1' <| And.intro Fs.cells.eq_1 <| And.intro frRows_len <| And.intro ty3 <| And.intro ty4 <| And.intro ty5 <| And.intro ty24 <| And.intro ty26 <| And.intro ty34 <| And.intro ty35 <| And.intro ty37 <| Try.results14; repeat' first | ((with_reducible first | apply w_seq | apply w_region | apply wl_nil | apply wr_nil | apply wr_nilA | apply wr_nilE | apply go_normal | apply go_ret | apply go_exit | apply blk_normal | apply blk_ret | apply blk_here | apply w_block | apply w_skip | apply w_exit | apply w_label)) | ((with_reducible first | apply wz (tok Try.prog) | apply wr_z (tok Try.prog)); exact zZ; decide) | ((with_reducible first | apply w_store (tok Try.prog)); exact zV; exact zV; exact zS) | ((with_reducible first | apply w_iff'); exact zV; exact zU) | ((with_reducible apply w_ret); (repeat (with_reducible first | apply go_ret | apply blk_ret)); (with_reducible first | apply donef_ret (tok Try.prog) | apply doneA_ret (tok Try.prog)); exact zT; exact zD) | fail
        all_goals try clear tE
        obtain ⟨ho, hok, e3⟩ := e2 hz
        rw [List.take_length] at e3
        refine ⟨_, rfl, _, rfl, .inr ⟨hz, o, m, trivial, rfl, ?_, hm, fun j v ab hv hab => ?_⟩⟩
        · rw [upd_ne _ _ (by omega)]; exact e3
        · have h := hown j v ab hv hab
          have keep : ∀ id b, 2 ≤ id ∧ id ≠ o → H id = some b → (True ∧ id ≠ o) ∧ upd H 0 (some (.cells [.slice o 0 f.l.length none 6, .int .i64 f.h] 26)) id = some b := fun id b h hb => ⟨⟨trivial, h.2⟩, by rw [upd_ne _ _ (by omega)]; exact hb⟩
          exact ⟨h.1.mv keep, h.2.mv keep⟩
theorem cal14 : Callable Try.prog 14 := ⟨_, Try.func14, rfl, rfl⟩
/-- The reference's Twin, from any memory. -/
theorem ac14 (f : Fs) (hl : f.l.length ≤ 1000000) (hd : ∀ x, x ∈ f.l → x.d.length ≤ 1000000 ∧ x.pins.length ≤ 1000000) (H : Heap) (n : Nat) : AC Try.prog 14 [.agg f.cells] H n (fun r H' n' => n ≤ n' ∧ (∀ id b, H id = some b → H' id = some b) ∧ (∀ id, n' ≤ id → H' id = none) ∧ ∃ a, r = .ret (.agg [a, .int .i64 f.h]) ∧ OwnF H' (n ≤ ·) f a) := by
  refine (ac_any (R := fun H x _ => ∃ a, x = .agg [a, .int .i64 f.h] ∧ OwnF H (fun _ => True) f a) (args_1 (fsa_pur f)) (ac14_0 f hl hd) H n).mono ?_
  rintro r H' n' ⟨h1, h2, h3, x, H0, n0, rfl, ⟨a, rfl, ha⟩, _, _, h5⟩
  exact ⟨h1, h2, h3, sh n a, by simp only [sh, shL], (ownF_sh (n := n) ha).mono (fun _ h => h.1) (fun id b _ hb => h5 id b hb)⟩
theorem nf14 (f : Fs) (hl : f.l.length ≤ 1000000) (hd : ∀ x, x ∈ f.l → x.d.length ≤ 1000000 ∧ x.pins.length ≤ 1000000) : NF Try.prog 14 [.agg f.cells] (fun r => r = .agg f.cells) :=
  nf_of_0 cal14 (args_1 (fsa_pur f)) ((ac14_0 f hl hd).mono (by rintro r H n ⟨x, rfl, a, rfl, ha⟩; exact ⟨_, _, rfl, ha.own, rfl⟩))
end Go.Proofs.Ytlmighkbeacjnaa
