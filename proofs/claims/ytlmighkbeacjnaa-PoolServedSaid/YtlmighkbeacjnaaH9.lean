/- spoil: frames in own memory are written over, and nothing else. -/
import Derived.Test.YtlmighkbeacjnaaH7
open Go Go.Lg
set_option linter.unusedSimpArgs false
set_option linter.unusedVariables false
set_option maxHeartbeats 4000000
set_option maxRecDepth 20000
namespace Go.Proofs.Ytlmighkbeacjnaa
theorem ac29_nil (hh : Int) (a : AV) (S : Nat → Prop) (H0 : Heap) (n0 : Nat) (hown : Own H0 S a (.view [])) : AC Try.prog 29 [.agg [a, .int .i64 hh]] H0 n0 (fun r H n => r = .ret (.tuple []) ∧ Spo S (upd H0 n0 (some (.cells [a, .int .i64 hh] 26))) H ∧ n = n0 + 1) := by
  rcases hown.nil_inv with rfl | ⟨id, off, cap, sz, cs, e, rfl, -, -, -⟩
  · refine ac_of_w Try.func29 (c := _) rfl (Nat.le_of_ble_eq_true rfl) ?_
    rw [show Try.f29.ntmps = 65 from rfl]
    have tE := And.intro (@upd_upd AV) <| And.intro (@upd_upd (Option Blk)) <| And.intro ty3 <| And.intro ty4 <| And.intro ty5 <| And.intro ty24 <| And.intro ty26 <| And.intro ty34 <| And.intro ty35 <| And.intro ty37 <| Try.results29; repeat' first | ((with_reducible first | apply w_seq | apply w_region | apply wl_nil | apply wr_nil | apply wr_nilA | apply wr_nilE | apply go_normal | apply go_ret | apply go_exit | apply blk_normal | apply blk_ret | apply blk_here | apply w_block | apply w_skip | apply w_exit | apply w_label)) | ((with_reducible apply l_box (d := 1)); exact zV; exact zU; decide) | ((with_reducible first | apply wz (tok Try.prog) | apply wr_z (tok Try.prog)); exact zZ; decide) | fail
    all_goals try clear tE
    refine w_loopP (S := Unit) (fun s => [(1, .ptr n0 0), (2, .int .i64 0)]) [] (fun s H k => H = upd H0 n0 (some (.cells [.empty, .int .i64 hh] 26)) ∧ k = n0 + 1) (fun s => 0) () ?_ rfl ?_ ?_
    · (have tE := And.intro (@upd_upd AV) <| @upd_upd (Option Blk); simp only [fitsT, List.take_zero, List.length_nil, sp_cons, sp_nil, upd_b, Nat.reduceBEq, cond_true, cond_false, args0_zero, args0_succ, args0_nil, tE]; repeat' first | exact trivial | apply And.intro | exact Sub.refl _ | exact Sub.cap)
    · exact ⟨rfl, rfl⟩
    · rintro _ H k ⟨rfl, rfl⟩
      have tE := And.intro (@upd_upd AV) <| And.intro (@upd_upd (Option Blk)) <| And.intro ty3 <| And.intro ty4 <| And.intro ty5 <| And.intro ty24 <| And.intro ty26 <| And.intro ty34 <| And.intro ty35 <| And.intro ty37 <| Try.results29; repeat' first | ((with_reducible first | apply w_seq | apply w_region | apply wl_nil | apply wr_nil | apply wr_nilA | apply wr_nilE | apply go_normal | apply go_ret | apply go_exit | apply blk_normal | apply blk_ret | apply blk_here | apply w_block | apply w_skip | apply w_exit | apply w_label)) | ((with_reducible first | apply wz (tok Try.prog) | apply wr_z (tok Try.prog)); exact zZ; decide) | ((with_reducible first | apply w_iff'); exact zV; exact zU) | fail
      all_goals try clear tE
      exact ⟨rfl, .tuple [], resv_of (xs := []) (tok Try.prog) rfl, rfl, Spo.refl _ _, rfl⟩
  · refine ac_of_w Try.func29 (c := _) rfl (Nat.le_of_ble_eq_true rfl) ?_
    rw [show Try.f29.ntmps = 65 from rfl]
    have tE := And.intro (@upd_upd AV) <| And.intro (@upd_upd (Option Blk)) <| And.intro ty3 <| And.intro ty4 <| And.intro ty5 <| And.intro ty24 <| And.intro ty26 <| And.intro ty34 <| And.intro ty35 <| And.intro ty37 <| Try.results29; repeat' first | ((with_reducible first | apply w_seq | apply w_region | apply wl_nil | apply wr_nil | apply wr_nilA | apply wr_nilE | apply go_normal | apply go_ret | apply go_exit | apply blk_normal | apply blk_ret | apply blk_here | apply w_block | apply w_skip | apply w_exit | apply w_label)) | ((with_reducible apply l_box (d := 1)); exact zV; exact zU; decide) | ((with_reducible first | apply wz (tok Try.prog) | apply wr_z (tok Try.prog)); exact zZ; decide) | fail
    all_goals try clear tE
    refine w_loopP (S := Unit) (fun s => [(1, .ptr n0 0), (2, .int .i64 0)]) [] (fun s H k => H = upd H0 n0 (some (.cells [.slice id off 0 cap sz, .int .i64 hh] 26)) ∧ k = n0 + 1) (fun s => 0) () ?_ rfl ?_ ?_
    · (have tE := And.intro (@upd_upd AV) <| @upd_upd (Option Blk); simp only [fitsT, List.take_zero, List.length_nil, sp_cons, sp_nil, upd_b, Nat.reduceBEq, cond_true, cond_false, args0_zero, args0_succ, args0_nil, tE]; repeat' first | exact trivial | apply And.intro | exact Sub.refl _ | exact Sub.cap)
    · exact ⟨rfl, rfl⟩
    · rintro _ H k ⟨rfl, rfl⟩
      have tE := And.intro (@upd_upd AV) <| And.intro (@upd_upd (Option Blk)) <| And.intro ty3 <| And.intro ty4 <| And.intro ty5 <| And.intro ty24 <| And.intro ty26 <| And.intro ty34 <| And.intro ty35 <| And.intro ty37 <| Try.results29; repeat' first | ((with_reducible first | apply w_seq | apply w_region | apply wl_nil | apply wr_nil | apply wr_nilA | apply wr_nilE | apply go_normal | apply go_ret | apply go_exit | apply blk_normal | apply blk_ret | apply blk_here | apply w_block | apply w_skip | apply w_exit | apply w_label)) | ((with_reducible first | apply wz (tok Try.prog) | apply wr_z (tok Try.prog)); exact zZ; decide) | ((with_reducible first | apply w_iff'); exact zV; exact zU) | fail
      all_goals try clear tE
      exact ⟨rfl, .tuple [], resv_of (xs := []) (tok Try.prog) rfl, rfl, Spo.refl _ _, rfl⟩
theorem ac29 (l : List Fr) (hh : Int) (a : AV) (S : Nat → Prop) (H0 : Heap) (n0 : Nat) (hown : Own H0 S a (.view (frRows l))) (hS : ∀ id, S id → id < n0) (hl : l.length ≤ 1000000) (hd : ∀ x, x ∈ l → x.d.length ≤ 1000000 ∧ x.pins.length ≤ 1000000) : AC Try.prog 29 [.agg [a, .int .i64 hh]] H0 n0 (fun r H n => r = .ret (.tuple []) ∧ Spo S (upd H0 n0 (some (.cells [a, .int .i64 hh] 26))) H ∧ n = n0 + 1) := by
  rcases Nat.eq_zero_or_pos l.length with hz | h0
  · have : l = [] := List.eq_nil_of_length_eq_zero hz
    subst this
    exact ac29_nil hh a S H0 n0 hown
  obtain ⟨b, off, cap, cs, et, rfl, hSb, hb0, hbl, hrow⟩ := own_frs h0 (hown.mono (H' := upd H0 n0 (some (.cells [a, .int .i64 hh] 26))) (fun _ h => h) (fun id c hid hc => by rw [upd_ne _ _ (by have := hS id hid; omega)]; exact hc))
  generalize hH1 : upd H0 n0 (some (.cells [.slice b off l.length cap 6, .int .i64 hh] 26)) = H1 at hb0 hrow
  have hn0 : ∀ H, Spo S H1 H → H n0 = some (.cells [.slice b off l.length cap 6, .int .i64 hh] 26) := fun H hs => by
    rw [hs.out n0 (fun h => by have := hS n0 h; omega), ← hH1, upd_same]
  have hfin : ∀ H, Spo S H1 H → Spo S H1 H := fun _ h => h
  refine ac_of_w Try.func29 (c := _) rfl (Nat.le_of_ble_eq_true rfl) ?_
  rw [show Try.f29.ntmps = 65 from rfl]
  have tE := And.intro (@upd_upd AV) <| And.intro (@upd_upd (Option Blk)) <| And.intro ty3 <| And.intro ty4 <| And.intro ty5 <| And.intro ty24 <| And.intro ty26 <| And.intro ty34 <| And.intro ty35 <| And.intro ty37 <| Try.results29; repeat' first | ((with_reducible first | apply w_seq | apply w_region | apply wl_nil | apply wr_nil | apply wr_nilA | apply wr_nilE | apply go_normal | apply go_ret | apply go_exit | apply blk_normal | apply blk_ret | apply blk_here | apply w_block | apply w_skip | apply w_exit | apply w_label)) | ((with_reducible apply l_box (d := 1)); exact zV; exact zU; decide) | ((with_reducible first | apply wz (tok Try.prog) | apply wr_z (tok Try.prog)); exact zZ; decide) | fail
  all_goals try clear tE
  refine w_loopP (S := Nat) (fun i => [(1, .ptr n0 0), (2, .int .i64 (i : Int))]) [] (fun i H k => i ≤ l.length ∧ Spo S H1 H ∧ k = n0 + 1) (fun i => l.length - i) 0 ?_ rfl ?_ ?_
  · (have tE := And.intro (@upd_upd AV) <| @upd_upd (Option Blk); simp only [fitsT, List.take_zero, List.length_nil, sp_cons, sp_nil, upd_b, Nat.reduceBEq, cond_true, cond_false, args0_zero, args0_succ, args0_nil, tE]; repeat' first | exact trivial | apply And.intro | exact Sub.refl _ | exact Sub.cap)
  · exact ⟨Nat.zero_le _, (by rw [← hH1]; exact Spo.refl _ _), rfl⟩
  · rintro i H k ⟨hi, hs, rfl⟩
    have hw : IntKind.i64.wrap ((i : Int) + 1) = ((i + 1 : Nat) : Int) := by rw [wrap64 (by omega) (by omega)]; rfl
    have g0 : (0 ≤ (i : Int)) = True := by simp
    have e0 := hn0 H hs
    by_cases e : i < l.length
    · have g1 : ((i : Int) < (l.length : Int)) = True := by simp; omega
      obtain ⟨u, hu⟩ : ∃ u, l[i]? = some u := ⟨l[i], List.getElem?_eq_getElem e⟩
      obtain ⟨x2, x3, c1, c2, c3, o2, o3⟩ := hrow i u hu
      have hdu := hd u (List.mem_of_getElem? hu)
      obtain ⟨ct, q1, q2, q3, q4⟩ := hs.blk hSb hb0
      obtain ⟨p', q5⟩ := q3 _ _ _ c1
      have b1 : (off + i * 6 + 1 + 1 ≤ ct.length) = True := by rw [q2]; simp; omega
      have hs1 := hs.store hSb hb0 q1 q5 (-7)
      have tE := And.intro (@upd_upd AV) <| And.intro (@upd_upd (Option Blk)) <| And.intro g1 <| And.intro g0 <| And.intro e0 <| And.intro q1 <| And.intro b1 <| And.intro ty3 <| And.intro ty4 <| And.intro ty5 <| And.intro ty24 <| And.intro ty26 <| And.intro ty34 <| And.intro ty35 <| And.intro ty37 <| Try.results29; repeat' first | ((with_reducible first | apply w_seq | apply w_region | apply wl_nil | apply wr_nil | apply wr_nilA | apply wr_nilE | apply go_normal | apply go_ret | apply go_exit | apply blk_normal | apply blk_ret | apply blk_here | apply w_block | apply w_skip | apply w_exit | apply w_label)) | ((with_reducible first | apply wz (tok Try.prog) | apply wr_z (tok Try.prog)); exact zZ; decide) | ((with_reducible first | apply w_store (tok Try.prog)); exact zV; exact zV; exact zS) | ((with_reducible first | apply w_ift'); exact zV; exact zU) | fail
      all_goals try clear tE
      refine w_loopP (S := Nat) (fun j => [(1, .ptr n0 0), (2, .int .i64 (i : Int)), (3, .int .i64 (j : Int))]) [] (fun j H k => j ≤ u.d.length ∧ Spo S H1 H ∧ k = n0 + 1) (fun j => u.d.length - j) 0 ?_ rfl ?_ ?_
      · (have tE := And.intro (@upd_upd AV) <| @upd_upd (Option Blk); simp only [fitsT, List.take_zero, List.length_nil, sp_cons, sp_nil, upd_b, Nat.reduceBEq, cond_true, cond_false, args0_zero, args0_succ, args0_nil, tE]; repeat' first | exact trivial | apply And.intro | exact Sub.refl _ | exact Sub.cap)
      · exact ⟨Nat.zero_le _, hs1, rfl⟩
      · clear e0 q1 q2 q3 q4 q5 b1 hs1 hs
        rintro j H k ⟨hj, hs, rfl⟩
        have e0 := hn0 H hs
        obtain ⟨ct, q1, q2, q3, q4⟩ := hs.blk hSb hb0
        have hwj : IntKind.i64.wrap ((j : Int) + 1) = ((j + 1 : Nat) : Int) := by rw [wrap64 (by omega) (by omega)]; rfl
        have j0 : (0 ≤ (j : Int)) = True := by simp
        have w2 := drop_head (q4 _ _ c2 (own_noint o2))
        have b2 : (off + i * 6 + 2 + 1 ≤ ct.length) = True := by rw [q2]; simp; omega
        by_cases ej : j < u.d.length
        · have j1 : ((j : Int) < (u.d.length : Int)) = True := by simp; omega
          obtain ⟨id2, off2, cap2, cs2, e2, r1, r2, r3, r4, r5⟩ := own_kind (by rw [byteRows_len]; omega) (byte_kind u.d) o2
          rw [byteRows_len] at r1 r4 r5
          subst r1
          obtain ⟨v0, r6⟩ := r5 j ej
          obtain ⟨dt, s1, s2, s3, s4⟩ := hs.blk r2 r3
          obtain ⟨v, s5⟩ := s3 _ _ _ r6
          have s6 := drop_head s5
          have b3 : (off2 + j + 1 ≤ dt.length) = True := by rw [s2]; simp; omega
          have hs1 := hs.store r2 r3 s1 s5 (IntKind.u8.wrap (v + 1))
          have tE := And.intro (@upd_upd AV) <| And.intro (@upd_upd (Option Blk)) <| And.intro g1 <| And.intro g0 <| And.intro e0 <| And.intro q1 <| And.intro w2 <| And.intro b2 <| And.intro j1 <| And.intro j0 <| And.intro hwj <| And.intro s1 <| And.intro s6 <| And.intro b3 <| And.intro Nat.mul_one <| And.intro ty3 <| And.intro ty4 <| And.intro ty5 <| And.intro ty24 <| And.intro ty26 <| And.intro ty34 <| And.intro ty35 <| And.intro ty37 <| Try.results29; repeat' first | ((with_reducible first | apply w_seq | apply w_region | apply wl_nil | apply wr_nil | apply wr_nilA | apply wr_nilE | apply go_normal | apply go_ret | apply go_exit | apply blk_normal | apply blk_ret | apply blk_here | apply w_block | apply w_skip | apply w_exit | apply w_label)) | ((with_reducible apply w_live (lvAt [[0], [1], [1, 2], [1, 2], [1, 2], [1, 2], [1, 2, 3], [1, 2, 3], [1, 2, 3], [1, 2], [1, 2, 4], [1, 2, 4], [1, 2, 4]])); (focus (simp only [lvAt_zero, lvAt_succ]; rfl)); exact zLv) | ((with_reducible first | apply wz (tok Try.prog) | apply wr_z (tok Try.prog)); exact zZ; decide) | ((with_reducible first | apply w_ift'); exact zV; exact zU) | ((with_reducible first | apply fm_nil | apply fm_cons)) | ((with_reducible apply m_next); exact zU) | ((with_reducible apply m_nil0); exact zU) | ((with_reducible first | apply m_v (tok Try.prog)); exact zU; exact zZ; decide) | ((with_reducible first | apply m_xA (tok Try.prog)); exact zU; exact zI; decide) | ((with_reducible first | apply m_x (tok Try.prog)); exact zU; (focus (decide +kernel)); exact zZ; decide) | ((with_reducible first | apply m_chg0); exact zU; (focus ((with_reducible apply c_store (tok Try.prog)); exact zV; exact zV; exact zS))) | ((with_reducible apply w_drawN (id := 8) [18] [([18], [0, 1, 2, 3, 4, 5, 6, 7, 8, 9, 10, 11, 12, 13, 14, 15, 16, 17, 18])] mixed); (focus (decide +kernel))) | fail
          all_goals try clear tE
          refine ⟨j + 1, by omega, ⟨by omega, hs1, rfl⟩, rfl, ?_⟩
          (have tE := And.intro (@upd_upd AV) <| And.intro (@upd_upd (Option Blk)) <| hwj; simp only [fitsT, List.take_zero, List.length_nil, sp_cons, sp_nil, upd_b, Nat.reduceBEq, cond_true, cond_false, args0_zero, args0_succ, args0_nil, tE]; repeat' first | exact trivial | apply And.intro | exact Sub.refl _ | exact Sub.cap)
        · have j1 : ((j : Int) < (u.d.length : Int)) = False := by simp; omega
          have hlen := own_len o2 5
          rw [byteRows_len] at hlen
          simp only [lenA] at hlen
          have tE := And.intro (@upd_upd AV) <| And.intro (@upd_upd (Option Blk)) <| And.intro g1 <| And.intro g0 <| And.intro e0 <| And.intro q1 <| And.intro w2 <| And.intro b2 <| And.intro j1 <| And.intro j0 <| And.intro hlen <| And.intro ty3 <| And.intro ty4 <| And.intro ty5 <| And.intro ty24 <| And.intro ty26 <| And.intro ty34 <| And.intro ty35 <| And.intro ty37 <| Try.results29; repeat' first | ((with_reducible first | apply w_seq | apply w_region | apply wl_nil | apply wr_nil | apply wr_nilA | apply wr_nilE | apply go_normal | apply go_ret | apply go_exit | apply blk_normal | apply blk_ret | apply blk_here | apply w_block | apply w_skip | apply w_exit | apply w_label)) | ((with_reducible first | apply wz (tok Try.prog) | apply wr_z (tok Try.prog)); exact zZ; decide) | ((with_reducible first | apply w_iff'); exact zV; exact zU) | fail
          all_goals try clear tE
          refine w_loopP (S := Nat) (fun j => [(1, .ptr n0 0), (2, .int .i64 (i : Int)), (4, .int .i64 (j : Int))]) [] (fun j H k => j ≤ u.pins.length ∧ Spo S H1 H ∧ k = n0 + 1) (fun j => u.pins.length - j) 0 ?_ rfl ?_ ?_
          · (have tE := And.intro (@upd_upd AV) <| @upd_upd (Option Blk); simp only [fitsT, List.take_zero, List.length_nil, sp_cons, sp_nil, upd_b, Nat.reduceBEq, cond_true, cond_false, args0_zero, args0_succ, args0_nil, tE]; repeat' first | exact trivial | apply And.intro | exact Sub.refl _ | exact Sub.cap)
          · exact ⟨Nat.zero_le _, hs, rfl⟩
          · clear e0 q1 q2 q3 q4 w2 b2 hs hwj j0 j1 ej hj hlen
            clear j
            rintro j H k ⟨hj, hs, rfl⟩
            have e0 := hn0 H hs
            obtain ⟨ct, q1, q2, q3, q4⟩ := hs.blk hSb hb0
            have hwj : IntKind.i64.wrap ((j : Int) + 1) = ((j + 1 : Nat) : Int) := by rw [wrap64 (by omega) (by omega)]; rfl
            have j0 : (0 ≤ (j : Int)) = True := by simp
            have w3 := drop_head (q4 _ _ c3 (own_noint o3))
            have b3 : (off + i * 6 + 3 + 1 ≤ ct.length) = True := by rw [q2]; simp; omega
            by_cases ej : j < u.pins.length
            · have j1 : ((j : Int) < (u.pins.length : Int)) = True := by simp; omega
              obtain ⟨id2, off2, cap2, cs2, e2, r1, r2, r3, r4, r5⟩ := own_kind (by rw [intRows_len]; omega) (int_kind u.pins) o3
              rw [intRows_len] at r1 r4 r5
              subst r1
              obtain ⟨v0, r6⟩ := r5 j ej
              obtain ⟨dt, s1, s2, s3, s4⟩ := hs.blk r2 r3
              obtain ⟨v, s5⟩ := s3 _ _ _ r6
              have b4 : (off2 + j + 1 ≤ dt.length) = True := by rw [s2]; simp; omega
              have hs1 := hs.store r2 r3 s1 s5 (-7)
              have tE := And.intro (@upd_upd AV) <| And.intro (@upd_upd (Option Blk)) <| And.intro g1 <| And.intro g0 <| And.intro e0 <| And.intro q1 <| And.intro w3 <| And.intro b3 <| And.intro j1 <| And.intro j0 <| And.intro hwj <| And.intro s1 <| And.intro b4 <| And.intro Nat.mul_one <| And.intro ty3 <| And.intro ty4 <| And.intro ty5 <| And.intro ty24 <| And.intro ty26 <| And.intro ty34 <| And.intro ty35 <| And.intro ty37 <| Try.results29; repeat' first | ((with_reducible first | apply w_seq | apply w_region | apply wl_nil | apply wr_nil | apply wr_nilA | apply wr_nilE | apply go_normal | apply go_ret | apply go_exit | apply blk_normal | apply blk_ret | apply blk_here | apply w_block | apply w_skip | apply w_exit | apply w_label)) | ((with_reducible first | apply wz (tok Try.prog) | apply wr_z (tok Try.prog)); exact zZ; decide) | ((with_reducible first | apply w_store (tok Try.prog)); exact zV; exact zV; exact zS) | ((with_reducible first | apply w_ift'); exact zV; exact zU) | fail
              all_goals try clear tE
              refine ⟨j + 1, by omega, ⟨by omega, hs1, rfl⟩, rfl, ?_⟩
              (have tE := And.intro (@upd_upd AV) <| And.intro (@upd_upd (Option Blk)) <| hwj; simp only [fitsT, List.take_zero, List.length_nil, sp_cons, sp_nil, upd_b, Nat.reduceBEq, cond_true, cond_false, args0_zero, args0_succ, args0_nil, tE]; repeat' first | exact trivial | apply And.intro | exact Sub.refl _ | exact Sub.cap)
            · have j1 : ((j : Int) < (u.pins.length : Int)) = False := by simp; omega
              have hlen := own_len o3 3
              rw [intRows_len] at hlen
              simp only [lenA] at hlen
              have tE := And.intro (@upd_upd AV) <| And.intro (@upd_upd (Option Blk)) <| And.intro g1 <| And.intro g0 <| And.intro e0 <| And.intro q1 <| And.intro w3 <| And.intro b3 <| And.intro j1 <| And.intro j0 <| And.intro hw <| And.intro hlen <| And.intro ty3 <| And.intro ty4 <| And.intro ty5 <| And.intro ty24 <| And.intro ty26 <| And.intro ty34 <| And.intro ty35 <| And.intro ty37 <| Try.results29; repeat' first | ((with_reducible first | apply w_seq | apply w_region | apply wl_nil | apply wr_nil | apply wr_nilA | apply wr_nilE | apply go_normal | apply go_ret | apply go_exit | apply blk_normal | apply blk_ret | apply blk_here | apply w_block | apply w_skip | apply w_exit | apply w_label)) | ((with_reducible first | apply wz (tok Try.prog) | apply wr_z (tok Try.prog)); exact zZ; decide) | ((with_reducible first | apply w_iff'); exact zV; exact zU) | fail
              all_goals try clear tE
              refine ⟨i + 1, by omega, ⟨by omega, hs, rfl⟩, rfl, ?_⟩
              (have tE := And.intro (@upd_upd AV) <| And.intro (@upd_upd (Option Blk)) <| hw; simp only [fitsT, List.take_zero, List.length_nil, sp_cons, sp_nil, upd_b, Nat.reduceBEq, cond_true, cond_false, args0_zero, args0_succ, args0_nil, tE]; repeat' first | exact trivial | apply And.intro | exact Sub.refl _ | exact Sub.cap)
    · have g1 : ((i : Int) < (l.length : Int)) = False := by simp; omega
      have tE := And.intro (@upd_upd AV) <| And.intro (@upd_upd (Option Blk)) <| And.intro g1 <| And.intro g0 <| And.intro e0 <| And.intro ty3 <| And.intro ty4 <| And.intro ty5 <| And.intro ty24 <| And.intro ty26 <| And.intro ty34 <| And.intro ty35 <| And.intro ty37 <| Try.results29; repeat' first | ((with_reducible first | apply w_seq | apply w_region | apply wl_nil | apply wr_nil | apply wr_nilA | apply wr_nilE | apply go_normal | apply go_ret | apply go_exit | apply blk_normal | apply blk_ret | apply blk_here | apply w_block | apply w_skip | apply w_exit | apply w_label)) | ((with_reducible first | apply wz (tok Try.prog) | apply wr_z (tok Try.prog)); exact zZ; decide) | ((with_reducible first | apply w_iff'); exact zV; exact zU) | fail
      all_goals try clear tE
      exact ⟨rfl, .tuple [], resv_of (xs := []) (tok Try.prog) rfl, rfl, hs, rfl⟩
theorem cal29 : Callable Try.prog 29 := ⟨_, Try.func29, rfl, rfl⟩
end Go.Proofs.Ytlmighkbeacjnaa
