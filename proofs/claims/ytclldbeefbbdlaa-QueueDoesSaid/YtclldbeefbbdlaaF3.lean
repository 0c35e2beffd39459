/- spoil: units in own memory are written over, and nothing else. -/
import Derived.Test.YtclldbeefbbdlaaF2
open Go Go.Lg
set_option linter.unusedSimpArgs false
set_option linter.unusedVariables false
set_option maxHeartbeats 4000000
set_option maxRecDepth 20000
namespace Go.Proofs.Ytclldbeefbbdlaa
theorem own_uns {H : Heap} {S : Nat → Prop} {a : AV} {l : List Un} (h0 : 0 < l.length) (h : Own H S a (.view (unRows l))) : ∃ id off cap cs e, a = .slice id off l.length cap 4 ∧ S id ∧ H id = some (.cells cs e) ∧ off + l.length * 4 ≤ cs.length ∧ ∀ (i : Nat) u, l[i]? = some u → ∃ x3, cs[off + i * 4 + 1]? = some (.int .i64 u.p) ∧ cs[off + i * 4 + 3]? = some x3 ∧ Own H S x3 (.view (byteRows u.d)) := by
  obtain ⟨id, off, cap, cs, e, h1, h2, h3, h4, h5⟩ := Own.view_inv (sz := 4) (unRows_row l) (by rw [unRows_len]; exact h0) h
  rw [unRows_len] at h1 h4
  refine ⟨id, off, cap, cs, e, h1, h2, h3, h4, fun i u hu => ?_⟩
  have hi := (List.getElem?_eq_some_iff.1 hu).1
  have get : ∀ j, j < 4 → ∃ x, cs[off + i * 4 + j]? = some x ∧ ∀ v, u.cells[j]? = some v → Own H S x v := fun j hj => by
    have hx : cs[off + i * 4 + j]? = some (cs[off + i * 4 + j]'(by omega)) := List.getElem?_eq_getElem _
    refine ⟨_, hx, fun v hv => h5 (i * 4 + j) _ v (by rw [← Nat.add_assoc]; exact hx) ?_⟩
    rw [un_at hu hj]; exact hv
  obtain ⟨x1, g1, o1⟩ := get 1 (by decide)
  obtain ⟨x3, g3, o3⟩ := get 3 (by decide)
  have e1 := (o1 (.int .i64 u.p) rfl).int_inv
  subst e1
  exact ⟨x3, g1, g3, o3 _ rfl⟩
theorem byte_kind (d : List UInt8) : ∀ (i : Nat) r, (byteRows d)[i]? = some r → ∃ a, r = [.int .u8 a] := by
  intro i r h
  obtain ⟨h1, rfl⟩ := List.getElem?_eq_some_iff.1 h
  simp [byteRows]
theorem ac44_nil (a : AV) (S : Nat → Prop) (H0 : Heap) (n0 : Nat) (hown : Own H0 S a (.view [])) : AC Try.prog 44 [a] H0 n0 (fun r H n => r = .ret (.tuple []) ∧ Spo S H0 H ∧ n = n0) := by
  rcases hown.nil_inv with rfl | ⟨id, off, cap, sz, cs, e, rfl, -, -, -⟩
  · refine ac_of_w Try.func44 (c := _) rfl (Nat.le_of_ble_eq_true rfl) ?_
    rw [show Try.f44.ntmps = 40 from rfl]
    have tE := And.intro (@upd_upd AV) <| And.intro (@upd_upd (Option Blk)) <| And.intro ty3 <| And.intro ty5 <| And.intro ty55 <| And.intro ty56 <| And.intro ty58 <| Try.results44; repeat' first | ((with_reducible first | apply w_seq | apply w_region | apply wl_nil | apply wr_nil | apply wr_nilA | apply wr_nilE | apply go_normal | apply go_ret | apply go_exit | apply blk_normal | apply blk_ret | apply blk_here | apply w_block | apply w_skip | apply w_exit | apply w_label)) | ((with_reducible first | apply wz (tok Try.prog) | apply wr_z (tok Try.prog)); exact zZ; decide) | fail
    all_goals try clear tE
    refine w_loopP (S := Unit) (fun s => [(0, .empty), (2, .int .i64 0)]) [] (fun s H k => H = H0 ∧ k = n0) (fun s => 0) () ?_ rfl ?_ ?_
    · (have tE := And.intro (@upd_upd AV) <| @upd_upd (Option Blk); simp only [fitsT, List.take_zero, List.length_nil, sp_cons, sp_nil, upd_b, Nat.reduceBEq, cond_true, cond_false, args0_zero, args0_succ, args0_nil, tE]; repeat' first | exact trivial | apply And.intro | exact Sub.refl _ | exact Sub.cap)
    · exact ⟨rfl, rfl⟩
    · rintro _ H k ⟨e1, e2⟩
      rw [e1, e2]
      have tE := And.intro (@upd_upd AV) <| And.intro (@upd_upd (Option Blk)) <| And.intro ty3 <| And.intro ty5 <| And.intro ty55 <| And.intro ty56 <| And.intro ty58 <| Try.results44; repeat' first | ((with_reducible first | apply w_seq | apply w_region | apply wl_nil | apply wr_nil | apply wr_nilA | apply wr_nilE | apply go_normal | apply go_ret | apply go_exit | apply blk_normal | apply blk_ret | apply blk_here | apply w_block | apply w_skip | apply w_exit | apply w_label)) | ((with_reducible first | apply wz (tok Try.prog) | apply wr_z (tok Try.prog)); exact zZ; decide) | ((with_reducible first | apply w_iff'); exact zV; exact zU) | fail
      all_goals try clear tE
      exact ⟨rfl, .tuple [], resv_of (xs := []) (tok Try.prog) rfl, rfl, Spo.refl _ _, rfl⟩
  · refine ac_of_w Try.func44 (c := _) rfl (Nat.le_of_ble_eq_true rfl) ?_
    rw [show Try.f44.ntmps = 40 from rfl]
    have tE := And.intro (@upd_upd AV) <| And.intro (@upd_upd (Option Blk)) <| And.intro ty3 <| And.intro ty5 <| And.intro ty55 <| And.intro ty56 <| And.intro ty58 <| Try.results44; repeat' first | ((with_reducible first | apply w_seq | apply w_region | apply wl_nil | apply wr_nil | apply wr_nilA | apply wr_nilE | apply go_normal | apply go_ret | apply go_exit | apply blk_normal | apply blk_ret | apply blk_here | apply w_block | apply w_skip | apply w_exit | apply w_label)) | ((with_reducible first | apply wz (tok Try.prog) | apply wr_z (tok Try.prog)); exact zZ; decide) | fail
    all_goals try clear tE
    refine w_loopP (S := Unit) (fun s => [(0, .slice id off 0 cap sz), (2, .int .i64 0)]) [] (fun s H k => H = H0 ∧ k = n0) (fun s => 0) () ?_ rfl ?_ ?_
    · (have tE := And.intro (@upd_upd AV) <| @upd_upd (Option Blk); simp only [fitsT, List.take_zero, List.length_nil, sp_cons, sp_nil, upd_b, Nat.reduceBEq, cond_true, cond_false, args0_zero, args0_succ, args0_nil, tE]; repeat' first | exact trivial | apply And.intro | exact Sub.refl _ | exact Sub.cap)
    · exact ⟨rfl, rfl⟩
    · rintro _ H k ⟨e1, e2⟩
      rw [e1, e2]
      have tE := And.intro (@upd_upd AV) <| And.intro (@upd_upd (Option Blk)) <| And.intro ty3 <| And.intro ty5 <| And.intro ty55 <| And.intro ty56 <| And.intro ty58 <| Try.results44; repeat' first | ((with_reducible first | apply w_seq | apply w_region | apply wl_nil | apply wr_nil | apply wr_nilA | apply wr_nilE | apply go_normal | apply go_ret | apply go_exit | apply blk_normal | apply blk_ret | apply blk_here | apply w_block | apply w_skip | apply w_exit | apply w_label)) | ((with_reducible first | apply wz (tok Try.prog) | apply wr_z (tok Try.prog)); exact zZ; decide) | ((with_reducible first | apply w_iff'); exact zV; exact zU) | fail
      all_goals try clear tE
      exact ⟨rfl, .tuple [], resv_of (xs := []) (tok Try.prog) rfl, rfl, Spo.refl _ _, rfl⟩
theorem ac44 (l : List Un) (a : AV) (S : Nat → Prop) (H0 : Heap) (n0 : Nat) (hown : Own H0 S a (.view (unRows l))) (hl : l.length ≤ 1000000) (hd : ∀ x, x ∈ l → x.d.length ≤ 1000000) : AC Try.prog 44 [a] H0 n0 (fun r H n => r = .ret (.tuple []) ∧ Spo S H0 H ∧ n = n0) := by
  rcases Nat.eq_zero_or_pos l.length with hz | h0
  · have : l = [] := List.eq_nil_of_length_eq_zero hz
    subst this
    exact ac44_nil a S H0 n0 hown
  obtain ⟨b, off, cap, cs, et, rfl, hSb, hb0, hbl, hrow⟩ := own_uns h0 hown
  refine ac_of_w Try.func44 (c := _) rfl (Nat.le_of_ble_eq_true rfl) ?_
  rw [show Try.f44.ntmps = 40 from rfl]
  have tE := And.intro (@upd_upd AV) <| And.intro (@upd_upd (Option Blk)) <| And.intro ty3 <| And.intro ty5 <| And.intro ty55 <| And.intro ty56 <| And.intro ty58 <| Try.results44; repeat' first | ((with_reducible first | apply w_seq | apply w_region | apply wl_nil | apply wr_nil | apply wr_nilA | apply wr_nilE | apply go_normal | apply go_ret | apply go_exit | apply blk_normal | apply blk_ret | apply blk_here | apply w_block | apply w_skip | apply w_exit | apply w_label)) | ((with_reducible first | apply wz (tok Try.prog) | apply wr_z (tok Try.prog)); exact zZ; decide) | fail
  all_goals try clear tE
  refine w_loopP (S := Nat) (fun i => [(0, .slice b off l.length cap 4), (2, .int .i64 (i : Int))]) [] (fun i H k => i ≤ l.length ∧ Spo S H0 H ∧ k = n0) (fun i => l.length - i) 0 ?_ rfl ?_ ?_
  · (have tE := And.intro (@upd_upd AV) <| @upd_upd (Option Blk); simp only [fitsT, List.take_zero, List.length_nil, sp_cons, sp_nil, upd_b, Nat.reduceBEq, cond_true, cond_false, args0_zero, args0_succ, args0_nil, tE]; repeat' first | exact trivial | apply And.intro | exact Sub.refl _ | exact Sub.cap)
  · exact ⟨Nat.zero_le _, Spo.refl _ _, rfl⟩
  · rintro i H k ⟨hi, hs, rfl⟩
    have hw : IntKind.i64.wrap ((i : Int) + 1) = ((i + 1 : Nat) : Int) := by rw [wrap64 (by omega) (by omega)]; rfl
    have g0 : (0 ≤ (i : Int)) = True := by simp
    by_cases e : i < l.length
    · have g1 : ((i : Int) < (l.length : Int)) = True := by simp; omega
      obtain ⟨u, hu⟩ : ∃ u, l[i]? = some u := ⟨l[i], List.getElem?_eq_getElem e⟩
      obtain ⟨x3, c1, c3, o3⟩ := hrow i u hu
      have hdu := hd u (List.mem_of_getElem? hu)
      obtain ⟨ct, q1, q2, q3, q4⟩ := hs.blk hSb hb0
      obtain ⟨p', q5⟩ := q3 _ _ _ c1
      have b1 : (off + i * 4 + 1 + 1 ≤ ct.length) = True := by rw [q2]; simp; omega
      have hs1 := hs.store hSb hb0 q1 q5 (-7)
      have tE := And.intro (@upd_upd AV) <| And.intro (@upd_upd (Option Blk)) <| And.intro g1 <| And.intro g0 <| And.intro q1 <| And.intro b1 <| And.intro ty3 <| And.intro ty5 <| And.intro ty55 <| And.intro ty56 <| And.intro ty58 <| Try.results44; repeat' first | ((with_reducible first | apply w_seq | apply w_region | apply wl_nil | apply wr_nil | apply wr_nilA | apply wr_nilE | apply go_normal | apply go_ret | apply go_exit | apply blk_normal | apply blk_ret | apply blk_here | apply w_block | apply w_skip | apply w_exit | apply w_label)) | ((with_reducible first | apply wz (tok Try.prog) | apply wr_z (tok Try.prog)); exact zZ; decide) | ((with_reducible first | apply w_store (tok Try.prog)); exact zV; exact zV; exact zS) | ((with_reducible first | apply w_ift'); exact zV; exact zU) | fail
      all_goals try clear tE
      refine w_loopP (S := Nat) (fun j => [(0, .slice b off l.length cap 4), (2, .int .i64 (i : Int)), (3, .int .i64 (j : Int))]) [] (fun j H k' => j ≤ u.d.length ∧ Spo S H0 H ∧ k' = k) (fun j => u.d.length - j) 0 ?_ rfl ?_ ?_
      · (have tE := And.intro (@upd_upd AV) <| @upd_upd (Option Blk); simp only [fitsT, List.take_zero, List.length_nil, sp_cons, sp_nil, upd_b, Nat.reduceBEq, cond_true, cond_false, args0_zero, args0_succ, args0_nil, tE]; repeat' first | exact trivial | apply And.intro | exact Sub.refl _ | exact Sub.cap)
      · exact ⟨Nat.zero_le _, hs1, rfl⟩
      · clear q1 q2 q3 q4 q5 b1 hs1 hs
        rintro j H k' ⟨hj, hs, rfl⟩
        obtain ⟨ct, q1, q2, q3, q4⟩ := hs.blk hSb hb0
        have hwj : IntKind.i64.wrap ((j : Int) + 1) = ((j + 1 : Nat) : Int) := by rw [wrap64 (by omega) (by omega)]; rfl
        have j0 : (0 ≤ (j : Int)) = True := by simp
        have w3 := drop_head (q4 _ _ c3 (own_noint o3))
        have b2 : (off + i * 4 + 3 + 1 ≤ ct.length) = True := by rw [q2]; simp; omega
        by_cases ej : j < u.d.length
        · have j1 : ((j : Int) < (u.d.length : Int)) = True := by simp; omega
          obtain ⟨id2, off2, cap2, cs2, e2, r1, r2, r3, r4, r5⟩ := own_kind (by rw [byteRows_len]; omega) (byte_kind u.d) o3
          rw [byteRows_len] at r1 r4 r5
          subst r1
          obtain ⟨v0, r6⟩ := r5 j ej
          obtain ⟨dt, s1, s2, s3, s4⟩ := hs.blk r2 r3
          obtain ⟨v, s5⟩ := s3 _ _ _ r6
          have s6 := drop_head s5
          have b3 : (off2 + j + 1 ≤ dt.length) = True := by rw [s2]; simp; omega
          have hs1 := hs.store r2 r3 s1 s5 (IntKind.u8.wrap (v + 1))
          have tE := And.intro (@upd_upd AV) <| And.intro (@upd_upd (Option Blk)) <| And.intro g1 <| And.intro g0 <| And.intro q1 <| And.intro w3 <| And.intro b2 <| And.intro j1 <| And.intro j0 <| And.intro hwj <| And.intro s1 <| And.intro s6 <| And.intro b3 <| And.intro Nat.mul_one <| And.intro ty3 <| And.intro ty5 <| And.intro ty55 <| And.intro ty56 <| And.intro ty58 <| Try.results44; repeat' first | ((with_reducible first | apply w_seq | apply w_region | apply wl_nil | apply wr_nil | apply wr_nilA | apply wr_nilE | apply go_normal | apply go_ret | apply go_exit | apply blk_normal | apply blk_ret | apply blk_here | apply w_block | apply w_skip | apply w_exit | apply w_label)) | ((with_reducible apply w_live (lvAt [[0], [0, 2], [0, 2], [0, 2], [0, 2], [0, 2, 3], [0, 2, 3], [0, 2, 3]])); (focus (simp only [lvAt_zero, lvAt_succ]; rfl)); exact zLv) | ((with_reducible first | apply wz (tok Try.prog) | apply wr_z (tok Try.prog)); exact zZ; decide) | ((with_reducible first | apply w_ift'); exact zV; exact zU) | ((with_reducible first | apply fm_nil | apply fm_cons)) | ((with_reducible apply m_next); exact zU) | ((with_reducible apply m_nil0); exact zU) | ((with_reducible first | apply m_v (tok Try.prog)); exact zU; exact zZ; decide) | ((with_reducible first | apply m_xA (tok Try.prog)); exact zU; exact zI; decide) | ((with_reducible first | apply m_x (tok Try.prog)); exact zU; (focus (decide +kernel)); exact zZ; decide) | ((with_reducible first | apply m_chg0); exact zU; (focus ((with_reducible apply c_store (tok Try.prog)); exact zV; exact zV; exact zS))) | ((with_reducible apply w_drawN (id := 7) [16] [([16], [0, 1, 2, 3, 4, 5, 6, 7, 8, 9, 10, 11, 12, 13, 14, 15, 16])] mixed); (focus (decide +kernel))) | fail
          all_goals try clear tE
          refine ⟨j + 1, by omega, ⟨by omega, hs1, rfl⟩, rfl, ?_⟩
          (have tE := And.intro (@upd_upd AV) <| And.intro (@upd_upd (Option Blk)) <| hwj; simp only [fitsT, List.take_zero, List.length_nil, sp_cons, sp_nil, upd_b, Nat.reduceBEq, cond_true, cond_false, args0_zero, args0_succ, args0_nil, tE]; repeat' first | exact trivial | apply And.intro | exact Sub.refl _ | exact Sub.cap)
        · have j1 : ((j : Int) < (u.d.length : Int)) = False := by simp; omega
          have hlen := own_len o3 5
          rw [byteRows_len] at hlen
          simp only [lenA] at hlen
          have tE := And.intro (@upd_upd AV) <| And.intro (@upd_upd (Option Blk)) <| And.intro g1 <| And.intro g0 <| And.intro q1 <| And.intro w3 <| And.intro b2 <| And.intro j1 <| And.intro j0 <| And.intro hw <| And.intro hlen <| And.intro ty3 <| And.intro ty5 <| And.intro ty55 <| And.intro ty56 <| And.intro ty58 <| Try.results44; repeat' first | ((with_reducible first | apply w_seq | apply w_region | apply wl_nil | apply wr_nil | apply wr_nilA | apply wr_nilE | apply go_normal | apply go_ret | apply go_exit | apply blk_normal | apply blk_ret | apply blk_here | apply w_block | apply w_skip | apply w_exit | apply w_label)) | ((with_reducible first | apply wz (tok Try.prog) | apply wr_z (tok Try.prog)); exact zZ; decide) | ((with_reducible first | apply w_iff'); exact zV; exact zU) | fail
          all_goals try clear tE
          refine ⟨i + 1, by omega, ⟨by omega, hs, rfl⟩, rfl, ?_⟩
          (have tE := And.intro (@upd_upd AV) <| And.intro (@upd_upd (Option Blk)) <| hw; simp only [fitsT, List.take_zero, List.length_nil, sp_cons, sp_nil, upd_b, Nat.reduceBEq, cond_true, cond_false, args0_zero, args0_succ, args0_nil, tE]; repeat' first | exact trivial | apply And.intro | exact Sub.refl _ | exact Sub.cap)
    · have g1 : ((i : Int) < (l.length : Int)) = False := by simp; omega
      have tE := And.intro (@upd_upd AV) <| And.intro (@upd_upd (Option Blk)) <| And.intro g1 <| And.intro g0 <| And.intro ty3 <| And.intro ty5 <| And.intro ty55 <| And.intro ty56 <| And.intro ty58 <| Try.results44; repeat' first | ((with_reducible first | apply w_seq | apply w_region | apply wl_nil | apply wr_nil | apply wr_nilA | apply wr_nilE | apply go_normal | apply go_ret | apply go_exit | apply blk_normal | apply blk_ret | apply blk_here | apply w_block | apply w_skip | apply w_exit | apply w_label)) | ((with_reducible first | apply wz (tok Try.prog) | apply wr_z (tok Try.prog)); exact zZ; decide) | ((with_reducible first | apply w_iff'); exact zV; exact zU) | fail
      all_goals try clear tE
      exact ⟨rfl, .tuple [], resv_of (xs := []) (tok Try.prog) rfl, rfl, hs, rfl⟩
theorem cal44 : Callable Try.prog 44 := ⟨_, Try.func44, rfl, rfl⟩
end Go.Proofs.Ytclldbeefbbdlaa
