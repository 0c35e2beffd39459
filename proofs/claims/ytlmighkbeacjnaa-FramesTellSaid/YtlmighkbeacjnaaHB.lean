/- The reference's clock, and its Victim. -/
import Derived.Test.YtlmighkbeacjnaaHA
open Go Go.Lg
set_option linter.unusedSimpArgs false
set_option linter.unusedVariables false
set_option maxHeartbeats 4000000
set_option maxRecDepth 20000
namespace Go.Proofs.Ytlmighkbeacjnaa
/-- What the reference's Clock answers. -/
def clockF (f : Fs) : Fs := match vic f.l f.h.toNat with
  | none => ⟨swept f.l f.h.toNat (2 * f.l.length), f.h⟩
  | some i => ⟨swept f.l f.h.toNat i, (((cat f.h.toNat f.l.length i + 1) % f.l.length : Nat) : Int)⟩
def clockA (f : Fs) : Int := match vic f.l f.h.toNat with
  | none => -1
  | some i => ((cat f.h.toNat f.l.length i : Nat) : Int)
structure RcI (f : Fs) (h b k0 : Nat) (m : List (AV × AV)) (i : Nat) (H : Heap) (k : Nat) : Prop where
  h0 : H 0 = some (.cells [.empty, .int .i64 (Int.ofNat 0)] 26)
  h4 : H k0 = some (.cells [.slice b 0 f.l.length none 6, .int .i64 f.h] 26)
  hb : H b = some (.cells (oRows (swept f.l h i) m).flatten 37)
  own : OwnABs H (fun j => 1 ≤ j ∧ j ≠ b ∧ j < k0) f.l m
  kk : k0 < k
theorem rc_mv {f : Fs} {h b k0 : Nat} {m : List (AV × AV)} {i k k' : Nat} {H H' : Heap} (hI : RcI f h b k0 m i H k) (hbk : b < k0) (hk : k ≤ k') (hs : ∀ id, id ≤ k0 → H' id = H id) : RcI f h b k0 m i H' k' :=
  ⟨by rw [hs 0 (by omega)]; exact hI.h0, by rw [hs k0 (by omega)]; exact hI.h4, by rw [hs b (by omega)]; exact hI.hb, ⟨hI.own.1, fun j u v hu hv => (hI.own.2 j u v hu hv).mono (fun _ h => h) (fun id c hid hc => by rw [hs id (by omega)]; exact hc)⟩, by have := hI.kk; omega⟩
theorem rc_skip {f : Fs} {h b k0 : Nat} {m : List (AV × AV)} {i k : Nat} {H : Heap} {x : Fr} (hI : RcI f h b k0 m i H k) (hx : f.l[cat h f.l.length i]? = some x) (hs : skip x = true) : RcI f h b k0 m (i + 1) H k :=
  ⟨hI.h0, hI.h4, by rw [swept_skip hx hs]; exact hI.hb, hI.own, hI.kk⟩
theorem rc_rf {f : Fs} {h b k0 : Nat} {m : List (AV × AV)} {i k : Nat} {H : Heap} {x : Fr} {ab : AV × AV} (hI : RcI f h b k0 m i H k) (hx : f.l[cat h f.l.length i]? = some x) (hab : m[cat h f.l.length i]? = some ab) (hs : skip x = false) (hb1 : 1 ≤ b) (hbk : b < k0) :
    RcI f h b k0 m (i + 1) (upd H b (some (.cells ((oRows (swept f.l h i) m).flatten.set (cat h f.l.length i * 6 + 4) (.bool false)) 37))) k := by
  refine ⟨by rw [upd_ne _ _ (by omega)]; exact hI.h0, by rw [upd_ne _ _ (by omega)]; exact hI.h4, ?_, ⟨hI.own.1, fun j u v hu hv => ?_⟩, hI.kk⟩
  · have := oFlat_set4 (v := unref (seen f.l h i x)) (swept_at hx) hab rfl
    rw [upd_same, swept_rf hx hs, ← unref_seen f.l h i x, ← this]; rfl
  · have := hI.own.2 j u v hu hv
    exact this.mono (fun _ h => h) (fun id c hid hc => by rw [upd_ne _ _ (by omega)]; exact hc)
theorem rc_own {f : Fs} {h b k0 : Nat} {m : List (AV × AV)} {i k : Nat} {H H' : Heap} {hand : Int} (hI : RcI f h b k0 m i H k) (hl0 : 0 < f.l.length) (hb1 : 1 ≤ b) (hbk : b < k0) (hs : ∀ id, 1 ≤ id → id < k0 → H' id = H id) : Own H' (fun _ => True) (.agg [.slice b 0 f.l.length none 6, .int .i64 hand]) (.agg (Fs.cells ⟨swept f.l h i, hand⟩)) := by
  have ho : OwnF H' (fun _ => True) ⟨swept f.l h i, hand⟩ (.slice b 0 f.l.length none 6) := by
    refine .inr ⟨by rw [swept_len]; exact hl0, b, m, trivial, by rw [swept_len], by rw [hs b hb1 hbk]; exact hI.hb, by rw [swept_len]; exact hI.own.1, fun j u v hu hv => ?_⟩
    have hjl : j < f.l.length := by have := (List.getElem?_eq_some_iff.1 hu).1; rwa [swept_len] at this
    obtain ⟨z, hz, z1, z2⟩ := swept_pins (h := h) (i := i) (List.getElem?_eq_getElem hjl)
    rw [hu] at hz; cases hz
    have ho := hI.own.2 j _ v (List.getElem?_eq_getElem hjl) hv
    have hmv : ∀ id c, (1 ≤ id ∧ id ≠ b ∧ id < k0) → H id = some c → (True ∧ id ≠ b) ∧ H' id = some c := fun id c hid hc => ⟨⟨trivial, hid.2.1⟩, by rw [hs id hid.1 hid.2.2]; exact hc⟩
    exact ⟨by rw [z1]; exact ho.1.mv hmv, by rw [z2]; exact ho.2.mv hmv⟩
  exact ho.own
theorem may_kinds {c : Cf} {x : Fr} (h : mayF c x = true) : (x.k = 0 ∨ x.k = 1 ∨ x.k = 2) ∧ (x.k = 0 → x.rf = false) := by
  unfold mayF at h
  simp only [Bool.and_eq_true, decide_eq_true_eq] at h
  have h2 := h.2
  by_cases h0 : x.k = 0
  · simp [h0] at h2
    exact ⟨.inl h0, fun _ => h2.1.2⟩
  · by_cases h1 : x.k = 1
    · exact ⟨.inr (.inl h1), fun e => absurd e h0⟩
    · by_cases h3 : x.k = 2
      · exact ⟨.inr (.inr h3), fun e => absurd e h0⟩
      · simp [h0, h1, h3] at h2
theorem nf72 (c : Cf) (f : Fs) (hl : f.l.length ≤ 1000000) (hd : ∀ x, x ∈ f.l → x.d.length ≤ 1000000 ∧ x.pins.length ≤ 1000000) (hok : okF c f = true) : NF Try.prog 72 [.agg f.cells] (fun r => r = .tuple [.agg (clockF f).cells, .int .i64 (clockA f)]) := by
  have hs : okS c f = true := by simp only [okF, Bool.and_eq_true] at hok; exact hok.1
  have hmay : ∀ x, x ∈ f.l → mayF c x = true := by simp only [okF, Bool.and_eq_true] at hok; exact (okL_iff.1 hok.2).1
  simp only [okS, Bool.and_eq_true, decide_eq_true_eq] at hs
  obtain ⟨⟨⟨hg, hlen⟩, hh0⟩, hh1⟩ := hs
  obtain ⟨h, hh⟩ : ∃ h : Nat, f.h = h := ⟨f.h.toNat, by omega⟩
  have htn : f.h.toNat = h := by omega
  have hl0 : 0 < f.l.length := by omega
  have hhl : h < f.l.length := by omega
  have h14 := ac14 f hl hd
  unfold clockF clockA
  rw [htn]
  refine nf_of_w0 Try.func72 (c := _) rfl rfl (Nat.le_of_ble_eq_true rfl) (args_1 (fsa_pur f)) ?_
  rw [show Try.f72.ntmps = 58 from rfl]
  have hfv : Pur (.vptr f.cells) := .vptr (fs_pur f)
  have tE := And.intro (@upd_upd AV) <| And.intro (@upd_upd (Option Blk)) <| And.intro Fs.cells.eq_1 <| And.intro ty3 <| And.intro ty4 <| And.intro ty5 <| And.intro ty24 <| And.intro ty26 <| And.intro ty34 <| And.intro ty35 <| And.intro ty37 <| Try.results72; repeat' first | ((with_reducible first | apply w_seq | apply w_region | apply wl_nil | apply wr_nil | apply wr_nilA | apply wr_nilE | apply go_normal | apply go_ret | apply go_exit | apply blk_normal | apply blk_ret | apply blk_here | apply w_block | apply w_skip | apply w_exit | apply w_label)) | ((with_reducible first | apply wz (tok Try.prog) | apply wr_z (tok Try.prog)); exact zZ; decide) | ((with_reducible first | apply w_alloc (tok Try.prog)); exact zT; decide) | fail
  all_goals try clear tE
  (have tE := And.intro (@upd_upd AV) <| And.intro (@upd_upd (Option Blk)) <| Fs.cells.eq_1; (with_reducible apply wacall); exact zV; exact zVs; exact zAs; exact cal14; (focus (with_unfolding_all exact h14 _ _)); decide; clear tE)
  rintro r H' k0 ⟨hn', hold, htop, α, rfl, hown⟩
  rcases hown with ⟨hz, _⟩ | ⟨hs0, b, m, hb1, rfl, hbH, hmO⟩
  · rw [hz] at hl0; cases hl0
  have hb1 : 1 ≤ b := hb1
  have e0' : H' 0 = some (.cells [.empty, .int .i64 (Int.ofNat 0)] 26) := hold 0 _ rfl
  have hbk : b < k0 := by
    rcases Nat.lt_or_ge b k0 with hx | hx
    · exact hx
    · rw [htop b hx] at hbH; cases hbH
  have tE := And.intro (@upd_upd AV) <| And.intro (@upd_upd (Option Blk)) <| And.intro Fs.cells.eq_1 <| And.intro frRows_len <| And.intro ty3 <| And.intro ty4 <| And.intro ty5 <| And.intro ty24 <| And.intro ty26 <| And.intro ty34 <| And.intro ty35 <| And.intro ty37 <| Try.results72; repeat' first | ((with_reducible first | apply w_seq | apply w_region | apply wl_nil | apply wr_nil | apply wr_nilA | apply wr_nilE | apply go_normal | apply go_ret | apply go_exit | apply blk_normal | apply blk_ret | apply blk_here | apply w_block | apply w_skip | apply w_exit | apply w_label)) | ((with_reducible first | apply wz (tok Try.prog) | apply wr_z (tok Try.prog)); exact zZ; decide) | ((with_reducible first | apply w_alloc (tok Try.prog)); exact zT; decide) | ((with_reducible first | apply w_store (tok Try.prog)); exact zV; exact zV; exact zS) | fail
  all_goals try clear tE
  refine w_loopP (S := Nat) (fun i => [(1, .vptr f.cells), (2, .ptr 0 0), (4, .ptr k0 0), (5, .int .i64 (f.l.length : Int)), (6, .int .i64 (i : Int))]) [] (fun i H k => i ≤ 2 * f.l.length ∧ RcI f h b k0 m i H k ∧ firstStop f.l h (2 * f.l.length - i) i = vic f.l h) (fun i => 2 * f.l.length - i) 0 ?_ rfl ?_ ?_
  · (have tE := And.intro (@upd_upd AV) <| And.intro (@upd_upd (Option Blk)) <| Fs.cells.eq_1; simp only [fitsT, List.take_zero, List.length_nil, sp_cons, sp_nil, upd_b, Nat.reduceBEq, cond_true, cond_false, args0_zero, args0_succ, args0_nil, tE]; repeat' first | exact trivial | apply And.intro | exact Sub.refl _ | exact Sub.cap)
  · refine ⟨Nat.zero_le _, ⟨?_, ?_, ?_, ⟨hmO.1, fun j u v hu hv => ?_⟩, by show k0 < k0 + 1; omega⟩, rfl⟩
    · show upd _ _ _ 0 = _
      rw [upd_ne _ _ (by omega)]; exact e0'
    · show upd _ _ _ k0 = _
      rw [upd_same]
    · show upd _ _ _ b = _
      rw [upd_ne _ _ (by omega), swept_zero]; exact hbH
    · have hmv : ∀ id c, (1 ≤ id ∧ id ≠ b) → H' id = some c → (1 ≤ id ∧ id ≠ b ∧ id < k0) ∧ (upd H' k0 (some (.cells [.slice b 0 f.l.length none 6, .int .i64 f.h] 26))) id = some c := fun id c hid hc => by
        have hlt : id < k0 := by
          rcases Nat.lt_or_ge id k0 with hx | hx
          · exact hx
          · rw [htop id hx] at hc; cases hc
        exact ⟨⟨hid.1, hid.2, hlt⟩, by rw [upd_ne _ _ (by omega)]; exact hc⟩
      have := hmO.2 j u v hu hv
      exact ⟨this.1.mv hmv, this.2.mv hmv⟩
  · clear e0' hbH hold htop
    rintro i H k ⟨hi, hI, hfs⟩
    have E0 := hI.h0
    have E4 := hI.h4
    have Eb := hI.hb
    have hkk := hI.kk
    have e2 : IntKind.i64.wrap (2 * (f.l.length : Int)) = ((2 * f.l.length : Nat) : Int) := by rw [wrap64 (by omega) (by omega)]; omega
    have hw : IntKind.i64.wrap ((i : Int) + 1) = ((i + 1 : Nat) : Int) := by rw [wrap64 (by omega) (by omega)]; rfl
    have q0 : ((0 : Nat) == k) = false := by rw [beq_eq_false_iff_ne]; omega
    have qb : (b == k) = false := by rw [beq_eq_false_iff_ne]; omega
    have q4 : (k0 == k) = false := by rw [beq_eq_false_iff_ne]; omega
    have p0 : ((0 : Nat) == k0) = false := by rw [beq_eq_false_iff_ne]; omega
    have pb : (b == k0) = false := by rw [beq_eq_false_iff_ne]; omega
    have pk : (k == b) = false := by rw [beq_eq_false_iff_ne]; omega
    by_cases e : i < 2 * f.l.length
    · have g1 : ((i : Int) < ((2 * f.l.length : Nat) : Int)) = True := by simp; omega
      have hw2 : IntKind.i64.wrap (f.h + (i : Int)) = (h : Int) + i := by rw [hh, wrap64 (by omega) (by omega)]
      have hne : ((f.l.length : Int) = 0) = False := eq_false (by omega)
      have hrem := cat_rem (h := h) (n := f.l.length) (i := i) hl0
      obtain ⟨x, hx⟩ : ∃ x, f.l[cat h f.l.length i]? = some x := ⟨_, List.getElem?_eq_getElem (cat_lt hl0)⟩
      have hcl : cat h f.l.length i < f.l.length := cat_lt hl0
      obtain ⟨ab, hab⟩ : ∃ ab, m[cat h f.l.length i]? = some ab := ⟨_, List.getElem?_eq_getElem (by rw [hmO.1]; exact hcl)⟩
      have hy := swept_at (h := h) (i := i) hx
      have hfs' : firstStop f.l h (2 * f.l.length - i) i = if stops f.l h i = true then some i else firstStop f.l h (2 * f.l.length - (i + 1)) (i + 1) := by
        rw [show 2 * f.l.length - i = 2 * f.l.length - (i + 1) + 1 by omega]; rfl
      have hsk : stops f.l h i = (!skip x && !(seen f.l h i x).rf) := by simp only [stops, hx]
      obtain ⟨s1, s2, s3, s4, s5⟩ := seen_k f.l h i x
      have s6 := seen_skip' f.l h i x
      have hmx := may_kinds (hmay x (List.mem_of_getElem? hx))
      have srf : x.k = 0 → (seen f.l h i x).rf = false := fun h0 => by
        unfold seen
        split
        · rfl
        · exact hmx.2 h0
      generalize seen f.l h i x = y at hy hsk s1 s2 s3 s4 s5 s6 srf
      have hpd := (hd x (List.mem_of_getElem? hx)).2
      rw [← s4] at hpd
      have hoab := hI.own.2 _ x ab hx hab
      have z1 := (own_scal hoab.1).1
      have z2 := (own_scal hoab.2).1
      simp only [scalA] at z1 z2
      have hl50 : ∀ (X : Option Blk) (n : Nat), AC Try.prog 50 [.agg (oRow y ab)] (upd H k X) n (fun r h' n' => r = .ret (.bool (pinned y)) ∧ h' = upd H k X ∧ n' = n) := fun X n => by
        refine PF.look (pf50 y hpd) (.bool _) _ _ (.cons (FzL.agg (.cons (.pur (.int _ _)) (.cons (.pur (.int _ _)) (.cons (Own.fz (S := fun _ => True) (H := upd H k X) ?_) (.cons (Own.fz (S := fun _ => True) (H := upd H k X) ?_) (.cons (.pur (.bool _)) (.cons (.pur (.bool _)) .nil))))))) .nil)
        · rw [s3]; exact hoab.1.mono (fun _ _ => trivial) (fun id c hid hc => by rw [upd_ne _ _ (by omega)]; exact hc)
        · rw [s4]; exact hoab.2.mono (fun _ _ => trivial) (fun id c hid hc => by rw [upd_ne _ _ (by omega)]; exact hc)
      have hl50' := fun X n => hl50 X n
      simp only [oRow] at hl50'
      have hfl := oFlat_len (l := swept f.l h i) (m := m) (by rw [swept_len]; exact hmO.1)
      rw [swept_len] at hfl
      have j0 : (0 ≤ ((cat h f.l.length i : Nat) : Int)) = True := by simp
      have j1 : (((cat h f.l.length i : Nat) : Int) < (f.l.length : Int)) = True := by simp; exact hcl
      have hrow := flat_row (oRows_row _ _) (oRows_at hy hab)
      have b6 : (6 ≤ ((oRows (swept f.l h i) m).flatten.drop (cat h f.l.length i * 6)).length) = True := by rw [List.length_drop, hfl]; simp; omega
      have b4 : (cat h f.l.length i * 6 + 4 + 1 ≤ (oRows (swept f.l h i) m).flatten.length) = True := by rw [hfl]; simp; omega
      by_cases hk1 : y.k = 1
      · have c1 : (y.k == 1) = true := by simpa using hk1
        have hsx : skip x = true := by rw [← s6]; simp [skip, hk1]
        have tE := And.intro (@upd_upd AV) <| And.intro (@upd_upd (Option Blk)) <| And.intro g1 <| And.intro e2 <| And.intro hw <| And.intro hw2 <| And.intro hne <| And.intro hrem <| And.intro E0 <| And.intro E4 <| And.intro Eb <| And.intro q0 <| And.intro qb <| And.intro q4 <| And.intro p0 <| And.intro pb <| And.intro pk <| And.intro j0 <| And.intro j1 <| And.intro hrow <| And.intro b6 <| And.intro b4 <| And.intro z1 <| And.intro z2 <| And.intro c1 <| And.intro oRow.eq_1 <| And.intro Fs.cells.eq_1 <| And.intro frRows_len <| And.intro Nat.add_zero <| And.intro ty3 <| And.intro ty4 <| And.intro ty5 <| And.intro ty24 <| And.intro ty26 <| And.intro ty34 <| And.intro ty35 <| And.intro ty37 <| Try.results72; repeat' first | ((with_reducible first | apply w_seq | apply w_region | apply wl_nil | apply wr_nil | apply wr_nilA | apply wr_nilE | apply go_normal | apply go_ret | apply go_exit | apply blk_normal | apply blk_ret | apply blk_here | apply w_block | apply w_skip | apply w_exit | apply w_label)) | ((with_reducible first | apply wz (tok Try.prog) | apply wr_z (tok Try.prog)); exact zZ; decide) | ((with_reducible first | apply wskip' | apply wr_skip); exact zU; exact zL; exact zU; decide) | ((with_reducible first | apply w_alloc (tok Try.prog)); exact zT; decide) | ((with_reducible first | apply w_store (tok Try.prog)); exact zV; exact zV; exact zS) | ((with_reducible first | apply w_ift'); exact zV; exact zU) | fail
        all_goals try clear tE
        rw [hsk, hsx] at hfs'
        refine ⟨i + 1, by omega, ⟨by omega, rc_mv (rc_skip hI hx hsx) hbk (Nat.le_succ k) (fun id hid => upd_ne _ _ (by omega)), by rw [← hfs]; exact hfs'.symm⟩, rfl, ?_⟩
        (have tE := And.intro (@upd_upd AV) <| And.intro (@upd_upd (Option Blk)) <| And.intro hw <| Fs.cells.eq_1; simp only [fitsT, List.take_zero, List.length_nil, sp_cons, sp_nil, upd_b, Nat.reduceBEq, cond_true, cond_false, args0_zero, args0_succ, args0_nil, tE]; repeat' first | exact trivial | apply And.intro | exact Sub.refl _ | exact Sub.cap)
      · have c1 : (y.k == 1) = false := by simpa using hk1
        cases hpin : pinned y with
        | true =>
          have hsx : skip x = true := by rw [← s6]; simp [skip, hpin]
          have tE := And.intro (@upd_upd AV) <| And.intro (@upd_upd (Option Blk)) <| And.intro g1 <| And.intro e2 <| And.intro hw <| And.intro hw2 <| And.intro hne <| And.intro hrem <| And.intro E0 <| And.intro E4 <| And.intro Eb <| And.intro q0 <| And.intro qb <| And.intro q4 <| And.intro p0 <| And.intro pb <| And.intro pk <| And.intro j0 <| And.intro j1 <| And.intro hrow <| And.intro b6 <| And.intro b4 <| And.intro z1 <| And.intro z2 <| And.intro c1 <| And.intro hpin <| And.intro oRow.eq_1 <| And.intro Fs.cells.eq_1 <| And.intro frRows_len <| And.intro Nat.add_zero <| And.intro ty3 <| And.intro ty4 <| And.intro ty5 <| And.intro ty24 <| And.intro ty26 <| And.intro ty34 <| And.intro ty35 <| And.intro ty37 <| Try.results72; repeat' first | ((with_reducible first | apply w_seq | apply w_region | apply wl_nil | apply wr_nil | apply wr_nilA | apply wr_nilE | apply go_normal | apply go_ret | apply go_exit | apply blk_normal | apply blk_ret | apply blk_here | apply w_block | apply w_skip | apply w_exit | apply w_label)) | ((with_reducible first | apply wz (tok Try.prog) | apply wr_z (tok Try.prog)); exact zZ; decide) | ((with_reducible first | apply wzg (tok Try.prog) | apply wr_zg (tok Try.prog)); exact zU; exact zL; exact zU; exact zZ; decide) | ((with_reducible first | apply w_alloc (tok Try.prog)); exact zT; decide) | ((with_reducible first | apply w_store (tok Try.prog)); exact zV; exact zV; exact zS) | ((with_reducible first | apply wacallg'); exact zU; exact zL; exact zU; exact zV; exact zVs; exact zAs; (focus (first | exact ⟨_, Try.func50, rfl, rfl⟩)); (focus (with_unfolding_all first | exact hl50' _ _)); decide) | ((with_reducible first | apply w_ift'); exact zV; exact zU) | fail
          all_goals try clear tE
          rw [hsk, hsx] at hfs'
          refine ⟨i + 1, by omega, ⟨by omega, rc_mv (rc_skip hI hx hsx) hbk (Nat.le_succ k) (fun id hid => upd_ne _ _ (by omega)), by rw [← hfs]; exact hfs'.symm⟩, rfl, ?_⟩
          (have tE := And.intro (@upd_upd AV) <| And.intro (@upd_upd (Option Blk)) <| And.intro hw <| Fs.cells.eq_1; simp only [fitsT, List.take_zero, List.length_nil, sp_cons, sp_nil, upd_b, Nat.reduceBEq, cond_true, cond_false, args0_zero, args0_succ, args0_nil, tE]; repeat' first | exact trivial | apply And.intro | exact Sub.refl _ | exact Sub.cap)
        | false =>
          have hsx : skip x = false := by rw [← s6]; simp [skip, hpin, hk1]
          cases hrf : y.rf with
          | true =>
            have hk2 : y.k = 2 := by
              rcases hmx.1 with h0 | h0 | h0
              · rw [srf h0] at hrf; cases hrf
              · exact absurd (s1.trans h0) hk1
              · exact s1.trans h0
            have c2 : (y.k == 2) = true := by simpa using hk2
            rw [hrf] at hl50'
            have tE := And.intro (@upd_upd AV) <| And.intro (@upd_upd (Option Blk)) <| And.intro g1 <| And.intro e2 <| And.intro hw <| And.intro hw2 <| And.intro hne <| And.intro hrem <| And.intro E0 <| And.intro E4 <| And.intro Eb <| And.intro q0 <| And.intro qb <| And.intro q4 <| And.intro p0 <| And.intro pb <| And.intro pk <| And.intro j0 <| And.intro j1 <| And.intro hrow <| And.intro b6 <| And.intro b4 <| And.intro z1 <| And.intro z2 <| And.intro c1 <| And.intro hpin <| And.intro c2 <| And.intro hrf <| And.intro oRow.eq_1 <| And.intro Fs.cells.eq_1 <| And.intro frRows_len <| And.intro Nat.add_zero <| And.intro set_len <| And.intro ty3 <| And.intro ty4 <| And.intro ty5 <| And.intro ty24 <| And.intro ty26 <| And.intro ty34 <| And.intro ty35 <| And.intro ty37 <| Try.results72; repeat' first | ((with_reducible first | apply w_seq | apply w_region | apply wl_nil | apply wr_nil | apply wr_nilA | apply wr_nilE | apply go_normal | apply go_ret | apply go_exit | apply blk_normal | apply blk_ret | apply blk_here | apply w_block | apply w_skip | apply w_exit | apply w_label)) | ((with_reducible first | apply wz (tok Try.prog) | apply wr_z (tok Try.prog)); exact zZ; decide) | ((with_reducible first | apply wzg (tok Try.prog) | apply wr_zg (tok Try.prog)); exact zU; exact zL; exact zU; exact zZ; decide) | ((with_reducible first | apply w_alloc (tok Try.prog)); exact zT; decide) | ((with_reducible first | apply w_store (tok Try.prog)); exact zV; exact zV; exact zS) | ((with_reducible first | apply wacallg'); exact zU; exact zL; exact zU; exact zV; exact zVs; exact zAs; (focus (first | exact ⟨_, Try.func50, rfl, rfl⟩)); (focus (with_unfolding_all first | exact hl50' _ _)); decide) | ((with_reducible first | apply w_ift'); exact zV; exact zU) | ((with_reducible first | apply w_iff'); exact zV; exact zU) | fail
            all_goals try clear tE
            rw [hsk, hsx, hrf] at hfs'
            refine ⟨i + 1, by omega, ⟨by omega, rc_mv (rc_rf hI hx hab hsx hb1 hbk) hbk (show k ≤ k + 1 by omega) (fun id hid => ?_), by rw [← hfs]; exact hfs'.symm⟩, rfl, ?_⟩
            · show upd (upd H k _) b _ id = _
              by_cases ei : id = b
              · subst ei; rw [upd_same, upd_same]
              · rw [upd_ne _ _ ei, upd_ne _ _ (by omega), upd_ne _ _ ei]
            · (have tE := And.intro (@upd_upd AV) <| And.intro (@upd_upd (Option Blk)) <| And.intro hw <| Fs.cells.eq_1; simp only [fitsT, List.take_zero, List.length_nil, sp_cons, sp_nil, upd_b, Nat.reduceBEq, cond_true, cond_false, args0_zero, args0_succ, args0_nil, tE]; repeat' first | exact trivial | apply And.intro | exact Sub.refl _ | exact Sub.cap)
          | false =>
            rw [hsk, hsx, hrf] at hfs'
            have hst : vic f.l h = some i := by rw [← hfs]; exact hfs'
            rw [hst]
            rw [hrf] at hl50'
            have hw3 : IntKind.i64.wrap (((cat h f.l.length i : Nat) : Int) + 1) = ((cat h f.l.length i + 1 : Nat) : Int) := by rw [wrap64 (by omega) (by omega)]; rfl
            have hrem2 : Int.tmod ((cat h f.l.length i + 1 : Nat) : Int) (f.l.length : Int) = (((cat h f.l.length i + 1) % f.l.length : Nat) : Int) := rfl
            by_cases hk2 : y.k = 2
            · have c2 : (y.k == 2) = true := by simpa using hk2
              have tE := And.intro (@upd_upd AV) <| And.intro (@upd_upd (Option Blk)) <| And.intro g1 <| And.intro e2 <| And.intro hw <| And.intro hw2 <| And.intro hne <| And.intro hrem <| And.intro E0 <| And.intro E4 <| And.intro Eb <| And.intro q0 <| And.intro qb <| And.intro q4 <| And.intro p0 <| And.intro pb <| And.intro pk <| And.intro j0 <| And.intro j1 <| And.intro hrow <| And.intro b6 <| And.intro b4 <| And.intro z1 <| And.intro z2 <| And.intro c1 <| And.intro hpin <| And.intro c2 <| And.intro hrf <| And.intro hw3 <| And.intro hrem2 <| And.intro oRow.eq_1 <| And.intro Fs.cells.eq_1 <| And.intro frRows_len <| And.intro Nat.add_zero <| And.intro ty3 <| And.intro ty4 <| And.intro ty5 <| And.intro ty24 <| And.intro ty26 <| And.intro ty34 <| And.intro ty35 <| And.intro ty37 <| Try.results72; repeat' first | ((with_reducible first | apply w_seq | apply w_region | apply wl_nil | apply wr_nil | apply wr_nilA | apply wr_nilE | apply go_normal | apply go_ret | apply go_exit | apply blk_normal | apply blk_ret | apply blk_here | apply w_block | apply w_skip | apply w_exit | apply w_label)) | ((with_reducible first | apply wz (tok Try.prog) | apply wr_z (tok Try.prog)); exact zZ; decide) | ((with_reducible first | apply wzg (tok Try.prog) | apply wr_zg (tok Try.prog)); exact zU; exact zL; exact zU; exact zZ; decide) | ((with_reducible first | apply w_alloc (tok Try.prog)); exact zT; decide) | ((with_reducible first | apply w_store (tok Try.prog)); exact zV; exact zV; exact zS) | ((with_reducible first | apply wacallg'); exact zU; exact zL; exact zU; exact zV; exact zVs; exact zAs; (focus (first | exact ⟨_, Try.func50, rfl, rfl⟩)); (focus (with_unfolding_all first | exact hl50' _ _)); decide) | ((with_reducible first | apply w_ift'); exact zV; exact zU) | ((with_reducible first | apply w_iff'); exact zV; exact zU) | ((with_reducible apply w_ret); (repeat (with_reducible first | apply go_ret | apply blk_ret)); (with_reducible first | apply donef_ret (tok Try.prog) | apply doneA_ret (tok Try.prog)); exact zT; exact zD) | fail
              all_goals try clear tE
              refine ⟨_, _, rfl, OwnL.tuple (.cons (rc_own hI hl0 hb1 hbk (fun id h1 h2 => ?_)) (.cons (.int _ _) .nil)), rfl⟩
              rw [upd_ne _ _ (by omega), upd_ne _ _ (by omega), upd_ne _ _ (by omega)]
            · have c2 : (y.k == 2) = false := by simpa using hk2
              have tE := And.intro (@upd_upd AV) <| And.intro (@upd_upd (Option Blk)) <| And.intro g1 <| And.intro e2 <| And.intro hw <| And.intro hw2 <| And.intro hne <| And.intro hrem <| And.intro E0 <| And.intro E4 <| And.intro Eb <| And.intro q0 <| And.intro qb <| And.intro q4 <| And.intro p0 <| And.intro pb <| And.intro pk <| And.intro j0 <| And.intro j1 <| And.intro hrow <| And.intro b6 <| And.intro b4 <| And.intro z1 <| And.intro z2 <| And.intro c1 <| And.intro hpin <| And.intro c2 <| And.intro hrf <| And.intro hw3 <| And.intro hrem2 <| And.intro oRow.eq_1 <| And.intro Fs.cells.eq_1 <| And.intro frRows_len <| And.intro Nat.add_zero <| And.intro ty3 <| And.intro ty4 <| And.intro ty5 <| And.intro ty24 <| And.intro ty26 <| And.intro ty34 <| And.intro ty35 <| And.intro ty37 <| Try.results72; repeat' first | ((with_reducible first | apply w_seq | apply w_region | apply wl_nil | apply wr_nil | apply wr_nilA | apply wr_nilE | apply go_normal | apply go_ret | apply go_exit | apply blk_normal | apply blk_ret | apply blk_here | apply w_block | apply w_skip | apply w_exit | apply w_label)) | ((with_reducible first | apply wz (tok Try.prog) | apply wr_z (tok Try.prog)); exact zZ; decide) | ((with_reducible first | apply wzg (tok Try.prog) | apply wr_zg (tok Try.prog)); exact zU; exact zL; exact zU; exact zZ; decide) | ((with_reducible first | apply wskip' | apply wr_skip); exact zU; exact zL; exact zU; decide) | ((with_reducible first | apply w_alloc (tok Try.prog)); exact zT; decide) | ((with_reducible first | apply w_store (tok Try.prog)); exact zV; exact zV; exact zS) | ((with_reducible first | apply wacallg'); exact zU; exact zL; exact zU; exact zV; exact zVs; exact zAs; (focus (first | exact ⟨_, Try.func50, rfl, rfl⟩)); (focus (with_unfolding_all first | exact hl50' _ _)); decide) | ((with_reducible first | apply w_ift'); exact zV; exact zU) | ((with_reducible first | apply w_iff'); exact zV; exact zU) | ((with_reducible apply w_ret); (repeat (with_reducible first | apply go_ret | apply blk_ret)); (with_reducible first | apply donef_ret (tok Try.prog) | apply doneA_ret (tok Try.prog)); exact zT; exact zD) | fail
              all_goals try clear tE
              refine ⟨_, _, rfl, OwnL.tuple (.cons (rc_own hI hl0 hb1 hbk (fun id h1 h2 => ?_)) (.cons (.int _ _) .nil)), rfl⟩
              rw [upd_ne _ _ (by omega), upd_ne _ _ (by omega), upd_ne _ _ (by omega)]
    · obtain rfl : i = 2 * f.l.length := by omega
      have g1 : (((2 * f.l.length : Nat) : Int) < ((2 * f.l.length : Nat) : Int)) = False := by simp
      have hst : vic f.l h = none := by rw [← hfs, Nat.sub_self]; rfl
      rw [hst]
      have tE := And.intro (@upd_upd AV) <| And.intro (@upd_upd (Option Blk)) <| And.intro g1 <| And.intro e2 <| And.intro E0 <| And.intro E4 <| And.intro Eb <| And.intro p0 <| And.intro Fs.cells.eq_1 <| And.intro frRows_len <| And.intro ty3 <| And.intro ty4 <| And.intro ty5 <| And.intro ty24 <| And.intro ty26 <| And.intro ty34 <| And.intro ty35 <| And.intro ty37 <| Try.results72; repeat' first | ((with_reducible first | apply w_seq | apply w_region | apply wl_nil | apply wr_nil | apply wr_nilA | apply wr_nilE | apply go_normal | apply go_ret | apply go_exit | apply blk_normal | apply blk_ret | apply blk_here | apply w_block | apply w_skip | apply w_exit | apply w_label)) | ((with_reducible first | apply wz (tok Try.prog) | apply wr_z (tok Try.prog)); exact zZ; decide) | ((with_reducible first | apply w_store (tok Try.prog)); exact zV; exact zV; exact zS) | ((with_reducible first | apply w_iff'); exact zV; exact zU) | ((with_reducible apply w_ret); (repeat (with_reducible first | apply go_ret | apply blk_ret)); (with_reducible first | apply donef_ret (tok Try.prog) | apply doneA_ret (tok Try.prog)); exact zT; exact zD) | fail
      all_goals try clear tE
      refine ⟨_, _, rfl, OwnL.tuple (.cons (rc_own hI hl0 hb1 hbk (fun id h1 h2 => ?_)) (.cons (.int _ _) .nil)), rfl⟩
      rw [upd_ne _ _ (by omega)]
theorem clock_vic {c : Cf} {f : Fs} (hok : okF c f = true) : vicF c f = (if clockA f < 0 then ⟨[], 0⟩ else clockF f) ∧ vicA c f = (if clockA f < 0 then 0 else clockA f) ∧ vicE c f = (if clockA f < 0 then 250 else 0) := by
  cases hv : vic f.l f.h.toNat with
  | none => simp [vicF, vicA, vicE, clockA, clockF, hok, hv]
  | some i =>
    have h0 : ¬ ((cat f.h.toNat f.l.length i : Nat) : Int) < 0 := by omega
    have hA : clockA f = ((cat f.h.toNat f.l.length i : Nat) : Int) := by simp only [clockA, hv]
    rw [hA, if_neg h0, if_neg h0, if_neg h0]
    simp only [vicF, vicA, vicE, clockF, hok, hv, if_true]
    exact ⟨trivial, trivial, trivial⟩
theorem pf35 (c : Cf) (f : Fs) (hl : f.l.length ≤ 1000000) (hd : ∀ x, x ∈ f.l → x.d.length ≤ 1000000 ∧ x.pins.length ≤ 1000000) : PF Try.prog 35 [.agg c.cells, .agg f.cells] (fun r => r = .tuple [.agg (vicF c f).cells, .int .i64 (vicA c f), .int .i64 (vicE c f)]) := by
  have h37 := pf37 c f hl (fun x hx => (hd x hx).2)
  refine pf_of_wf0 Try.func35 (c := _) rfl rfl (Nat.le_of_ble_eq_true rfl) args_2cf ?_
  rw [show Try.f35.ntmps = 24 from rfl]
  cases hok : okF c f with
  | false =>
    have ev : eF c f = 8 := by simp [eF, hok]
    rw [ev] at h37
    have tE := And.intro (@upd_upd AV) <| And.intro (@upd_upd (Option Blk)) <| And.intro Cf.cells.eq_1 <| And.intro Fs.cells.eq_1 <| And.intro ty3 <| And.intro ty4 <| And.intro ty5 <| And.intro ty23 <| And.intro ty24 <| And.intro ty26 <| And.intro ty34 <| And.intro ty35 <| And.intro ty37 <| Try.results35; repeat' first | ((with_reducible first | apply w_seq | apply w_region | apply wl_nil | apply wr_nil | apply wr_nilA | apply wr_nilE | apply go_normal | apply go_ret | apply go_exit | apply blk_normal | apply blk_ret | apply blk_here | apply w_block | apply w_skip | apply w_exit | apply w_label)) | ((with_reducible first | apply wz (tok Try.prog) | apply wr_z (tok Try.prog)); exact zZ; decide) | ((with_reducible first | apply w_alloc (tok Try.prog)); exact zT; decide) | ((with_reducible first | apply w_store (tok Try.prog)); exact zV; exact zV; exact zS) | ((with_reducible first | apply wcall' | apply wr_call); exact zV; exact zVs; exact zAs; (focus (with_unfolding_all first | exact h37)); decide) | ((with_reducible first | apply w_ift'); exact zV; exact zU) | ((with_reducible apply w_ret); (repeat (with_reducible first | apply go_ret | apply blk_ret)); (with_reducible first | apply donef_ret (tok Try.prog) | apply doneA_ret (tok Try.prog)); exact zT; exact zD) | fail
    all_goals try clear tE
    · exact FzL.tuple (.cons (FzL.agg (.cons .nothing (.cons (.pur (.int _ _)) .nil))) (.cons (.pur (.int _ _)) (.cons (.pur (.int _ _)) .nil)))
    · exact .tuple (args_3 (fsa_pur ⟨[], 0⟩) (.int _ _) (.int _ _))
    · simp [vicF, vicA, vicE, hok]; rfl
  | true =>
    have ev : eF c f = 0 := by simp [eF, hok]
    rw [ev] at h37
    have h72 := (nf72 c f hl hd hok).pf
    obtain ⟨v1, v2, v3⟩ := clock_vic hok
    generalize clockF f = F at h72 v1
    generalize clockA f = A at h72 v1 v2 v3
    rw [v1, v2, v3]
    by_cases hA : A < 0
    · have g : (A < 0) = True := eq_true hA
      rw [if_pos hA, if_pos hA, if_pos hA]
      have tE := And.intro (@upd_upd AV) <| And.intro (@upd_upd (Option Blk)) <| And.intro Cf.cells.eq_1 <| And.intro Fs.cells.eq_1 <| And.intro g <| And.intro ty3 <| And.intro ty4 <| And.intro ty5 <| And.intro ty23 <| And.intro ty24 <| And.intro ty26 <| And.intro ty34 <| And.intro ty35 <| And.intro ty37 <| Try.results35; repeat' first | ((with_reducible first | apply w_seq | apply w_region | apply wl_nil | apply wr_nil | apply wr_nilA | apply wr_nilE | apply go_normal | apply go_ret | apply go_exit | apply blk_normal | apply blk_ret | apply blk_here | apply w_block | apply w_skip | apply w_exit | apply w_label)) | ((with_reducible first | apply wz (tok Try.prog) | apply wr_z (tok Try.prog)); exact zZ; decide) | ((with_reducible first | apply w_alloc (tok Try.prog)); exact zT; decide) | ((with_reducible first | apply w_store (tok Try.prog)); exact zV; exact zV; exact zS) | ((with_reducible first | apply wcall' | apply wr_call); exact zV; exact zVs; exact zAs; (focus (with_unfolding_all first | exact h37 | exact h72)); decide) | ((with_reducible first | apply w_ift'); exact zV; exact zU) | ((with_reducible first | apply w_iff'); exact zV; exact zU) | ((with_reducible apply w_ret); (repeat (with_reducible first | apply go_ret | apply blk_ret)); (with_reducible first | apply donef_ret (tok Try.prog) | apply doneA_ret (tok Try.prog)); exact zT; exact zD) | fail
      all_goals try clear tE
      · exact FzL.tuple (.cons (FzL.agg (.cons .nothing (.cons (.pur (.int _ _)) .nil))) (.cons (.pur (.int _ _)) (.cons (.pur (.int _ _)) .nil)))
      · exact .tuple (args_3 (fsa_pur ⟨[], 0⟩) (.int _ _) (.int _ _))
      · rfl
    · have g : (A < 0) = False := eq_false hA
      rw [if_neg hA, if_neg hA, if_neg hA]
      have tE := And.intro (@upd_upd AV) <| And.intro (@upd_upd (Option Blk)) <| And.intro Cf.cells.eq_1 <| And.intro Fs.cells.eq_1 <| And.intro g <| And.intro ty3 <| And.intro ty4 <| And.intro ty5 <| And.intro ty23 <| And.intro ty24 <| And.intro ty26 <| And.intro ty34 <| And.intro ty35 <| And.intro ty37 <| Try.results35; repeat' first | ((with_reducible first | apply w_seq | apply w_region | apply wl_nil | apply wr_nil | apply wr_nilA | apply wr_nilE | apply go_normal | apply go_ret | apply go_exit | apply blk_normal | apply blk_ret | apply blk_here | apply w_block | apply w_skip | apply w_exit | apply w_label)) | ((with_reducible first | apply wz (tok Try.prog) | apply wr_z (tok Try.prog)); exact zZ; decide) | ((with_reducible first | apply w_alloc (tok Try.prog)); exact zT; decide) | ((with_reducible first | apply w_store (tok Try.prog)); exact zV; exact zV; exact zS) | ((with_reducible first | apply wcall' | apply wr_call); exact zV; exact zVs; exact zAs; (focus (with_unfolding_all first | exact h37 | exact h72)); decide) | ((with_reducible first | apply w_iff'); exact zV; exact zU) | ((with_reducible apply w_ret); (repeat (with_reducible first | apply go_ret | apply blk_ret)); (with_reducible first | apply donef_ret (tok Try.prog) | apply doneA_ret (tok Try.prog)); exact zT; exact zD) | fail
      all_goals try clear tE
      · exact .pur (.tuple (args_3 (fsa_pur F) (.int _ _) (.int _ _)))
      · exact .tuple (args_3 (fsa_pur F) (.int _ _) (.int _ _))
      · rfl
end Go.Proofs.Ytlmighkbeacjnaa
