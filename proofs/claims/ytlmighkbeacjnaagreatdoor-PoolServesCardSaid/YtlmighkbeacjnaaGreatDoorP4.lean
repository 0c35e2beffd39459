/- PoolServes: the law computes true, the package variable given. -/
import Derived.Test.YtlmighkbeacjnaaGreatDoorYe
import Derived.Test.YtlmighkbeacjnaaGreatDoorT1
import Derived.Test.YtlmighkbeacjnaaGreatDoorYf
import Derived.Test.YtlmighkbeacjnaaGreatDoorK2
open Go Go.Lg
set_option linter.unusedSimpArgs false
set_option linter.unusedVariables false
set_option maxHeartbeats 8000000
set_option maxRecDepth 20000
namespace Go.Proofs.YtlmighkbeacjnaaGreatDoor
/-- What the store has, once a unit is served. -/
def nowB (u : Un) (base : List (List UInt8)) : List (List UInt8) := if u.k = 2 then base.set u.p.toNat u.d else base
theorem mayU_page {c : Cf} {u : Un} (h : mayU c u = true) : 0 ≤ u.p ∧ u.p < c.p := by
  simp only [mayU, decide_eq_true_eq] at h
  exact ⟨h.2.1, h.2.2.1⟩
theorem serve_all {c : Cf} {f : Fs} {u : Un} {q : List Un} {base : List (List UInt8)} (hs : Sound c f (u :: q) base) (hz : ((baseAt base u.p).length : Int) = c.z) :
    srvE c f u (baseAt base u.p) = 0 ∧ Sound c (srvF c f u (baseAt base u.p)) q (nowB u base) ∧ ∀ p : Int, 0 ≤ p → p < c.p → content (srvF c f u (baseAt base u.p)) q (nowB u base) p = content f (u :: q) base p := by
  have hm := qok_head hs.okq
  have hp := mayU_page hm
  obtain ⟨m1, m2, m3⟩ := mayU_parts hm
  by_cases hk : u.k = 2
  · have e1 : srvE c f u (baseAt base u.p) = 0 := by simp only [srvE, hs.okf, hm, hk, if_true]
    have e2 : srvF c f u (baseAt base u.p) = f := by simp only [srvF, hs.okf, hm, hk, if_true]
    have e3 : nowB u base = base.set u.p.toNat u.d := if_pos hk
    rw [e2, e3]
    exact ⟨e1, serve_write hs hk ⟨hp.1, by have := hs.len; omega⟩⟩
  · have hk1 : u.k = 1 := by omega
    obtain ⟨x, hx, hx1, hx2⟩ := hs.tog.ld 0 u rfl hk1
    obtain ⟨a, ha⟩ : ∃ a : Nat, u.f = a := ⟨u.f.toNat, by omega⟩
    have hxa : f.l[a]? = some x := by rw [ha, Int.toNat_natCast] at hx; exact hx
    have hal := (List.getElem?_eq_some_iff.1 hxa).1
    have hE0 : fillE c (baseAt base u.p) x = 0 := if_pos ⟨hx1, hz⟩
    have t1 : turnE c f (a : Int) (fillE c (baseAt base u.p)) = 0 := by rw [turnE, if_pos hs.okf, if_neg (by omega), Int.toNat_natCast, hxa]; exact hE0
    have t2 : turnF c f (a : Int) (fillE c (baseAt base u.p)) (fillV (baseAt base u.p)) = ⟨f.l.set a (fillV (baseAt base u.p) x), f.h⟩ := by rw [turnF, t1, if_pos rfl, Int.toNat_natCast, hxa]
    have e1 : srvE c f u (baseAt base u.p) = 0 := by
      simp only [srvE, hs.okf, hm, if_true, if_neg hk, ha, Int.toNat_natCast, hxa, Option.map_some, hx2]
      exact t1
    have e2 : srvF c f u (baseAt base u.p) = ⟨f.l.set a (fillV (baseAt base u.p) x), f.h⟩ := by
      simp only [srvF, hs.okf, hm, if_true, if_neg hk, ha, Int.toNat_natCast, hxa, Option.map_some, hx2]
      exact t2
    have hok : okF c ⟨f.l.set a (fillV (baseAt base u.p) x), f.h⟩ = true := by
      obtain ⟨a', u', v', h1, h2, h3, h4⟩ := (stay_fill c f (a : Int) (baseAt base u.p)).good t1
      rw [t2] at h4; exact h4
    have e3 : nowB u base = base := if_neg hk
    rw [e2, e3]
    exact ⟨e1, serve_fetch hs hk1 ha hxa hx1 hx2 hok⟩
theorem bbRows_row (l : List (List UInt8)) : ∀ r, r ∈ bbRows l → r.length = 1 := by
  intro r hr
  simp only [bbRows, List.mem_map] at hr
  obtain ⟨b, _, rfl⟩ := hr; rfl
theorem bbFlat_len (l : List (List UInt8)) : (bbRows l).flatten.length = l.length := by rw [flat_len (bbRows_row l), bbRows_len, Nat.mul_one]
theorem bbFlat_set (l : List (List UInt8)) (n : Nat) (b : List UInt8) (hn : n < l.length) : (bbRows l).flatten.set n (.view (byteRows b)) = (bbRows (l.set n b)).flatten := by
  have h := bb_row (List.getElem?_eq_getElem hn)
  have := flat_set (bbRows_row l) (.view (byteRows b)) h (j := 0) (by decide)
  rw [Nat.mul_one, Nat.add_zero] at this
  rw [this]
  congr 1
  simp [bbRows, List.map_set]
theorem ac6_early [GO] (hgo : GoOK) (c : Cf) (f : Fs) (q : List Un) (base : List (List UInt8)) (h : (greatF f.l || great q) = true ∨ base.length > 64 ∨ ((greatF f.l || great q) = false ∧ base.length ≤ 64 ∧ ¬ Sound c f q base)) (h29 : base.length ≤ 64 → (greatF f.l || great q) = false → PF Tryz.prog 29 [.agg c.cells, .agg f.cells, .view (unRows q), .view (bbRows base)] (fun r => r = .bool (sB c f q base))) :
    AC Tryz.prog 6 [.agg c.cells, .agg f.cells, .view (unRows q), .view (bbRows base)] (hF base0) 1 (fun r H n => r = .ret (.bool true) ∧ H 0 = hF base0 0) := by
  have h28 : AC Tryz.prog 28 [] (hF base0) 1 (fun r H' n' => r = .ret (.bool true) ∧ H' = hF base0 ∧ n' = 1) := (kp9 hgo).run
  have h8 := pf8 f q
  refine ac_of_w Tryz.func6 (c := _) rfl (Nat.le_of_ble_eq_true rfl) ?_
  rw [show Tryz.f6.ntmps = 135 from rfl]
  have hqv := unRows_pur q
  have hbv := bbRows_pur base
  have hfv : Pur (.vptr f.cells) := .vptr (fs_pur f)
  have hcv : Pur (.vptr c.cells) := .vptr (cells_pur c)
  cases hg : (greatF f.l || great q) with
  | true =>
    rw [hg] at h8
    have tE := And.intro (@upd_upd AV) <| And.intro (@upd_upd (Option Blk)) <| And.intro Cf.cells.eq_1 <| And.intro Fs.cells.eq_1 <| And.intro ty3 <| And.intro ty4 <| And.intro ty5 <| And.intro ty23 <| And.intro ty24 <| And.intro ty26 <| And.intro ty28 <| And.intro ty34 <| And.intro ty58 <| And.intro ty60 <| And.intro ty69 <| And.intro ty72 <| And.intro ty74 <| Tryz.results6; repeat' first | ((with_reducible first | apply w_seq | apply w_region | apply wl_nil | apply wr_nil | apply wr_nilA | apply wr_nilE | apply go_normal | apply go_ret | apply go_exit | apply blk_normal | apply blk_ret | apply blk_here | apply w_block | apply w_skip | apply w_exit | apply w_label)) | ((with_reducible first | apply wz (tok Tryz.prog) | apply wr_z (tok Tryz.prog)); exact zZ; decide) | ((with_reducible first | apply wskip' | apply wr_skip); exact zU; exact zL; exact zU; decide) | ((with_reducible first | apply wcall' | apply wr_call); exact zV; exact zVs; exact zAs; (focus (with_unfolding_all first | exact h8)); decide) | ((with_reducible first | apply wacall'); exact zV; exact zVs; exact zAs; (focus (first | exact ⟨_, Tryz.func28, rfl, rfl⟩)); (focus (with_unfolding_all first | exact h28)); decide) | ((with_reducible first | apply w_ift'); exact zV; exact zU) | ((with_reducible apply w_ret); (repeat (with_reducible first | apply go_ret | apply blk_ret)); (with_reducible first | apply donef_ret (tok Tryz.prog) | apply doneA_ret (tok Tryz.prog)); exact zT; exact zD) | fail
    all_goals try clear tE
    exact ⟨rfl, rfl⟩
  | false =>
    rw [hg] at h8
    by_cases hb : base.length > 64
    · have g1 : ((base.length : Int) > 64) = True := by simp; omega
      have tE := And.intro (@upd_upd AV) <| And.intro (@upd_upd (Option Blk)) <| And.intro Cf.cells.eq_1 <| And.intro Fs.cells.eq_1 <| And.intro g1 <| And.intro bbRows_len <| And.intro ty3 <| And.intro ty4 <| And.intro ty5 <| And.intro ty23 <| And.intro ty24 <| And.intro ty26 <| And.intro ty28 <| And.intro ty34 <| And.intro ty58 <| And.intro ty60 <| And.intro ty69 <| And.intro ty72 <| And.intro ty74 <| Tryz.results6; repeat' first | ((with_reducible first | apply w_seq | apply w_region | apply wl_nil | apply wr_nil | apply wr_nilA | apply wr_nilE | apply go_normal | apply go_ret | apply go_exit | apply blk_normal | apply blk_ret | apply blk_here | apply w_block | apply w_skip | apply w_exit | apply w_label)) | ((with_reducible first | apply wz (tok Tryz.prog) | apply wr_z (tok Tryz.prog)); exact zZ; decide) | ((with_reducible first | apply wzg (tok Tryz.prog) | apply wr_zg (tok Tryz.prog)); exact zU; exact zL; exact zU; exact zZ; decide) | ((with_reducible first | apply wskip' | apply wr_skip); exact zU; exact zL; exact zU; decide) | ((with_reducible first | apply wcall' | apply wr_call); exact zV; exact zVs; exact zAs; (focus (with_unfolding_all first | exact h8)); decide) | ((with_reducible first | apply wacall'); exact zV; exact zVs; exact zAs; (focus (first | exact ⟨_, Tryz.func28, rfl, rfl⟩)); (focus (with_unfolding_all first | exact h28)); decide) | ((with_reducible first | apply w_ift'); exact zV; exact zU) | ((with_reducible apply w_ret); (repeat (with_reducible first | apply go_ret | apply blk_ret)); (with_reducible first | apply donef_ret (tok Tryz.prog) | apply doneA_ret (tok Tryz.prog)); exact zT; exact zD) | fail
      all_goals try clear tE
      exact ⟨rfl, rfl⟩
    · have g1 : ((base.length : Int) > 64) = False := by simp; omega
      have hns : ¬ Sound c f q base := by
        rcases h with h | h | h
        · rw [hg] at h; cases h
        · exact absurd h hb
        · exact h.2.2
      have hsf := sB_false hns
      have h29 := h29 (by omega) hg
      rw [hsf] at h29
      have tE := And.intro (@upd_upd AV) <| And.intro (@upd_upd (Option Blk)) <| And.intro Cf.cells.eq_1 <| And.intro Fs.cells.eq_1 <| And.intro g1 <| And.intro bbRows_len <| And.intro ty3 <| And.intro ty4 <| And.intro ty5 <| And.intro ty23 <| And.intro ty24 <| And.intro ty26 <| And.intro ty28 <| And.intro ty34 <| And.intro ty58 <| And.intro ty60 <| And.intro ty69 <| And.intro ty72 <| And.intro ty74 <| Tryz.results6; repeat' first | ((with_reducible first | apply w_seq | apply w_region | apply wl_nil | apply wr_nil | apply wr_nilA | apply wr_nilE | apply go_normal | apply go_ret | apply go_exit | apply blk_normal | apply blk_ret | apply blk_here | apply w_block | apply w_skip | apply w_exit | apply w_label)) | ((with_reducible first | apply wz (tok Tryz.prog) | apply wr_z (tok Tryz.prog)); exact zZ; decide) | ((with_reducible first | apply wzg (tok Tryz.prog) | apply wr_zg (tok Tryz.prog)); exact zU; exact zL; exact zU; exact zZ; decide) | ((with_reducible first | apply wcall' | apply wr_call); exact zV; exact zVs; exact zAs; (focus (with_unfolding_all first | exact h8 | exact h29)); decide) | ((with_reducible first | apply wcallg' | apply wr_callg); exact zU; exact zL; exact zU; exact zV; exact zVs; exact zAs; (focus (with_unfolding_all first | exact h8 | exact h29)); decide) | ((with_reducible first | apply wacall'); exact zV; exact zVs; exact zAs; (focus (first | exact ⟨_, Tryz.func28, rfl, rfl⟩)); (focus (with_unfolding_all first | exact h28)); decide) | ((with_reducible first | apply w_ift'); exact zV; exact zU) | ((with_reducible apply w_ret); (repeat (with_reducible first | apply go_ret | apply blk_ret)); (with_reducible first | apply donef_ret (tok Tryz.prog) | apply doneA_ret (tok Tryz.prog)); exact zT; exact zD) | fail
      all_goals try clear tE
      exact ⟨rfl, rfl⟩
theorem g_frz2 {N : Nat} {σ : St} {d1 d2 id : Nat} {x1 x2 y1 y2 : AV} {b : Blk} (hH : σ.h id = some b) (hx1 : σ.tm d1 = x1) (hx2 : σ.tm d2 = x2) (hf1 : Fz (fun j => if j = id then some b else none) x1 y1) (hf2 : Fz (fun j => if j = id then some b else none) x2 y2) :
    ∀ K a, SR K N σ a → ∃ K1, K1.w = K.w ∧ SR K1 N ⟨upd (upd σ.tm d1 y1) d2 y2, upd σ.h id none, σ.n, σ.df⟩ a ∧ Step K σ.h K1 (upd σ.h id none) := by
  intro K a h
  obtain ⟨g1, g2, g3⟩ := roSome_ok (HS := fun j => if j = id then some b else none) (HR := upd σ.h id none) h.rel (fun i c hc => by
    split at hc
    · rename_i e; rw [e, hH]; exact hc
    · cases hc) (fun i c hc => by
    by_cases e : i = id
    · subst e; rw [upd_same] at hc; cases hc
    · rw [upd_ne _ _ e] at hc; exact hc) (fun i hi => by
    by_cases e : i = id
    · subst e; rw [upd_same] at hi; exact absurd rfl hi
    · simp only [if_neg e])
  have hE : Ext K (K.roAll fun j => if j = id then some b else none) := ⟨Nat.le_refl _, fun _ _ => ⟨rfl, rfl, rfl⟩, fun _ h => .inl h, fun _ _ => rfl⟩
  refine ⟨K.roAll fun j => if j = id then some b else none, rfl, ⟨h.next, g2, ⟨h.tr.1, fun t => ?_⟩, h.dr.mono hE⟩, g3⟩
  show VR _ (upd (upd σ.tm d1 y1) d2 y2 t) _
  have ht := h.tr.2 t
  by_cases e2 : t = d2
  · subst e2; rw [upd_same]; rw [hx2] at ht; exact fz_VR g1 hf2 _ ht
  · rw [upd_ne _ _ e2]
    by_cases e1 : t = d1
    · subst e1; rw [upd_same]; rw [hx1] at ht; exact fz_VR g1 hf1 _ ht
    · rw [upd_ne _ _ e1]; exact ht.mono hE
theorem great_few {l : List Un} (h : great l = false) : l.length ≤ 40 ∧ ∀ u, u ∈ l → u.d.length ≤ 100 := by
  simp only [great, Bool.or_eq_false_iff, decide_eq_false_iff_not, List.any_eq_false, decide_eq_true_eq] at h
  have h1 : l.length ≤ 40 := by omega
  refine ⟨h1, fun u hu => ?_⟩
  have := h.1 u (by rw [List.take_of_length_le h1]; exact hu)
  omega
theorem srv_small (c : Cf) (f : Fs) (u : Un) (data : List UInt8) (hl : f.l.length ≤ 1000000) (hd : ∀ x, x ∈ f.l → x.d.length ≤ 1000000 ∧ x.pins.length ≤ 1000000) (hdl : data.length ≤ 1000000) : Small (srvF c f u data) := by
  have hz : Small ⟨[], 0⟩ := ⟨by simp, fun x hx => by simp at hx⟩
  unfold srvF
  split
  · split
    · split
      · exact ⟨hl, hd⟩
      · split
        · exact turn_small hl hd (fun x hx _ => ⟨by simp only [fillV]; exact hdl, (hd x hx).2⟩)
        · exact hz
    · exact hz
  · exact hz
theorem fz_all {H : Heap} {id : Nat} {l : List (List UInt8)} {len : Nat} (hlen : l.length = len) (hH : H id = some (.cells (bbRows l).flatten 28)) : Fz H (.slice id 0 len none 1) (.view (bbRows l)) := by
  subst hlen
  have h := fz_slice_pur (H := H) (len := l.length) (off := 0) (cap := none) (sz := 1) hH (by rw [bbFlat_len]; omega) (flat_pur (bbRows_pur l))
  have e := chunk_flatten (bbRows_row l)
  rw [bbRows_len] at e
  rw [List.drop_zero, List.take_of_length_le (by rw [bbFlat_len]; omega), e] at h
  exact h
theorem ac6_main [GO] (hgo : GoOK) (c : Cf) (f : Fs) (q : List Un) (base : List (List UInt8)) (hg : (greatF f.l || great q) = false) (hb : base.length ≤ 64) (hs : Sound c f q base) :
    AC Tryz.prog 6 [.agg c.cells, .agg f.cells, .view (unRows q), .view (bbRows base)] (hF base0) 1 (fun r H n => r = .ret (.bool true) ∧ H 0 = hF base0 0) := by
  have h28 : AC Tryz.prog 28 [] (hF base0) 1 (fun r H' n' => r = .ret (.bool true) ∧ H' = hF base0 ∧ n' = 1) := (kp9 hgo).run
  have h8 := pf8 f q
  rw [hg] at h8
  simp only [Bool.or_eq_false_iff] at hg
  obtain ⟨hl0, hd0⟩ := great_small hg.1
  obtain ⟨hq0, hqd⟩ := great_few hg.2
  have hl : f.l.length ≤ 1000000 := by omega
  have hd : ∀ x, x ∈ f.l → x.d.length ≤ 1000000 ∧ x.pins.length ≤ 1000000 := fun x hx => by have := hd0 x hx; omega
  have h29 := pf29 c f q base (by omega) (by omega) hl (fun x hx => (hd x hx).2)
  rw [sB_true hs] at h29
  have h31 := pf31 c q (by omega) (fun u hu => Nat.le_trans (hqd u hu) (by decide))
  refine ac_of_w Tryz.func6 (c := _) rfl (Nat.le_of_ble_eq_true rfl) ?_
  rw [show Tryz.f6.ntmps = 135 from rfl]
  have hqv := unRows_pur q
  have hbv := bbRows_pur base
  have g1 : ((base.length : Int) > 64) = False := by simp; omega
  have tE := And.intro (@upd_upd AV) <| And.intro (@upd_upd (Option Blk)) <| And.intro Cf.cells.eq_1 <| And.intro Fs.cells.eq_1 <| And.intro g1 <| And.intro bbRows_len <| And.intro ty3 <| And.intro ty4 <| And.intro ty5 <| And.intro ty23 <| And.intro ty24 <| And.intro ty26 <| And.intro ty28 <| And.intro ty34 <| And.intro ty58 <| And.intro ty60 <| And.intro ty69 <| And.intro ty72 <| And.intro ty74 <| Tryz.results6; repeat' first | ((with_reducible first | apply w_seq | apply w_region | apply wl_nil | apply wr_nil | apply wr_nilA | apply wr_nilE | apply go_normal | apply go_ret | apply go_exit | apply blk_normal | apply blk_ret | apply blk_here | apply w_block | apply w_skip | apply w_exit | apply w_label)) | ((with_reducible first | apply wz (tok Tryz.prog) | apply wr_z (tok Tryz.prog)); exact zZ; decide) | ((with_reducible first | apply wzg (tok Tryz.prog) | apply wr_zg (tok Tryz.prog)); exact zU; exact zL; exact zU; exact zZ; decide) | ((with_reducible first | apply wcall' | apply wr_call); exact zV; exact zVs; exact zAs; (focus (with_unfolding_all first | exact h8 | exact h29)); decide) | ((with_reducible first | apply wcallg' | apply wr_callg); exact zU; exact zL; exact zU; exact zV; exact zVs; exact zAs; (focus (with_unfolding_all first | exact h8 | exact h29)); decide) | ((with_reducible first | apply wacall'); exact zV; exact zVs; exact zAs; (focus (first | exact ⟨_, Tryz.func28, rfl, rfl⟩)); (focus (with_unfolding_all first | exact h28)); decide) | ((with_reducible first | apply w_iff'); exact zV; exact zU) | fail
  all_goals try clear tE
  refine w_loopP (S := Nat) (fun i => [(2, .view (unRows q)), (3, .view (bbRows base)), (4, .vptr c.cells), (5, .vptr f.cells), (9, .bool true), (10, .int .i64 (i : Int))]) [] (fun i H k => i ≤ base.length ∧ (H 0 = hF base0 0 ∧ 1 ≤ k) ∧ ∀ (j : Nat) b, j < i → base[j]? = some b → (b.length : Int) = c.z) (fun i => base.length - i) 0 ?_ rfl ?_ ?_
  · (have tE := And.intro (@upd_upd AV) <| And.intro (@upd_upd (Option Blk)) <| And.intro Fs.cells.eq_1 <| Cf.cells.eq_1; simp only [fitsT, List.take_zero, List.length_nil, sp_cons, sp_nil, upd_b, Nat.reduceBEq, cond_true, cond_false, args0_zero, args0_succ, args0_nil, tE]; repeat' first | exact trivial | apply And.intro | exact Sub.refl _ | exact Sub.cap)
  · exact ⟨Nat.zero_le _, ⟨rfl, Nat.le_refl 1⟩, fun j b hj => absurd hj (by omega)⟩
  · rintro i H k ⟨hi, ⟨hz0, hk1⟩, hall⟩
    have hw : IntKind.i64.wrap ((i : Int) + 1) = ((i + 1 : Nat) : Int) := by rw [wrap64 (by omega) (by omega)]; rfl
    by_cases e : i < base.length
    · have h1 : ((i : Int) < (base.length : Int)) = True := by simp; omega
      have h0 : (0 ≤ (i : Int)) = True := by simp
      obtain ⟨b, hbi⟩ : ∃ b, base[i]? = some b := ⟨_, List.getElem?_eq_getElem e⟩
      have hr := bb_row hbi
      by_cases hz : (b.length : Int) = c.z
      · have c1 : ((b.length : Int) != c.z) = false := by simp [hz]
        have tE := And.intro (@upd_upd AV) <| And.intro (@upd_upd (Option Blk)) <| And.intro h1 <| And.intro h0 <| And.intro hr <| And.intro hw <| And.intro c1 <| And.intro Cf.cells.eq_1 <| And.intro bbRows_len <| And.intro byteRows_len <| And.intro ty3 <| And.intro ty4 <| And.intro ty5 <| And.intro ty23 <| And.intro ty24 <| And.intro ty26 <| And.intro ty28 <| And.intro ty34 <| And.intro ty58 <| And.intro ty60 <| And.intro ty69 <| And.intro ty72 <| And.intro ty74 <| Tryz.results6; repeat' first | ((with_reducible first | apply w_seq | apply w_region | apply wl_nil | apply wr_nil | apply wr_nilA | apply wr_nilE | apply go_normal | apply go_ret | apply go_exit | apply blk_normal | apply blk_ret | apply blk_here | apply w_block | apply w_skip | apply w_exit | apply w_label)) | ((with_reducible apply w_live (lvAt [[0, 1, 2, 3], [2, 3, 4, 5], [2, 3, 4, 5, 9], [9], [2, 3, 4, 5, 9], [2, 3, 4, 5, 9, 10], [2, 3, 4, 5, 9, 10], [2, 3, 4, 5, 9, 10], [9], [2, 3, 4, 5, 9], [2, 3, 4, 5, 9, 11, 12, 13], [9, 13], [2, 3, 4, 5, 9, 11, 12], [2, 3, 4, 5, 9, 11, 12, 14, 15], [2, 3, 4, 5, 9, 11, 12, 14, 15, 16], [2, 3, 4, 5, 9, 11, 12, 14, 15, 16], [2, 3, 4, 5, 9, 11, 14, 15, 16], [], [2, 3, 4, 5, 9, 11, 14, 16], [2, 3, 4, 5, 9, 11, 14, 16, 17], [2, 3, 4, 5, 9, 11, 14, 16, 17], [2, 3, 4, 5, 9, 11, 14, 16, 17], [], [9]])); (focus (simp only [lvAt_zero, lvAt_succ]; rfl)); exact zLv) | ((with_reducible first | apply wz (tok Tryz.prog) | apply wr_z (tok Tryz.prog)); exact zZ; decide) | ((with_reducible first | apply w_ift'); exact zV; exact zU) | ((with_reducible first | apply w_iff'); exact zV; exact zU) | ((with_reducible first | apply w_draw0 mixed); (focus (decide +kernel))) | fail
        all_goals try clear tE
        refine ⟨i + 1, by omega, ⟨by omega, ⟨hz0, hk1⟩, fun j b' hj hb' => ?_⟩, rfl, ?_⟩
        · rcases Nat.lt_or_ge j i with h | h
          · exact hall j b' h hb'
          · obtain rfl : j = i := by omega
            rw [hbi] at hb'; cases hb'; exact hz
        · (have tE := And.intro (@upd_upd AV) <| And.intro (@upd_upd (Option Blk)) <| And.intro hw <| And.intro Fs.cells.eq_1 <| Cf.cells.eq_1; simp only [fitsT, List.take_zero, List.length_nil, sp_cons, sp_nil, upd_b, Nat.reduceBEq, cond_true, cond_false, args0_zero, args0_succ, args0_nil, tE]; repeat' first | exact trivial | apply And.intro | exact Sub.refl _ | exact Sub.cap)
      · have c1 : ((b.length : Int) != c.z) = true := by simp [hz]
        have tE := And.intro (@upd_upd AV) <| And.intro (@upd_upd (Option Blk)) <| And.intro h1 <| And.intro h0 <| And.intro hr <| And.intro hw <| And.intro c1 <| And.intro Cf.cells.eq_1 <| And.intro bbRows_len <| And.intro byteRows_len <| And.intro ty3 <| And.intro ty4 <| And.intro ty5 <| And.intro ty23 <| And.intro ty24 <| And.intro ty26 <| And.intro ty28 <| And.intro ty34 <| And.intro ty58 <| And.intro ty60 <| And.intro ty69 <| And.intro ty72 <| And.intro ty74 <| Tryz.results6; repeat' first | ((with_reducible first | apply w_seq | apply w_region | apply wl_nil | apply wr_nil | apply wr_nilA | apply wr_nilE | apply go_normal | apply go_ret | apply go_exit | apply blk_normal | apply blk_ret | apply blk_here | apply w_block | apply w_skip | apply w_exit | apply w_label)) | ((with_reducible apply w_live (lvAt [[0, 1, 2, 3], [2, 3, 4, 5], [2, 3, 4, 5, 9], [9], [2, 3, 4, 5, 9], [2, 3, 4, 5, 9, 10], [2, 3, 4, 5, 9, 10], [2, 3, 4, 5, 9, 10], [9], [2, 3, 4, 5, 9], [2, 3, 4, 5, 9, 11, 12, 13], [9, 13], [2, 3, 4, 5, 9, 11, 12], [2, 3, 4, 5, 9, 11, 12, 14, 15], [2, 3, 4, 5, 9, 11, 12, 14, 15, 16], [2, 3, 4, 5, 9, 11, 12, 14, 15, 16], [2, 3, 4, 5, 9, 11, 14, 15, 16], [], [2, 3, 4, 5, 9, 11, 14, 16], [2, 3, 4, 5, 9, 11, 14, 16, 17], [2, 3, 4, 5, 9, 11, 14, 16, 17], [2, 3, 4, 5, 9, 11, 14, 16, 17], [], [9]])); (focus (simp only [lvAt_zero, lvAt_succ]; rfl)); exact zLv) | ((with_reducible first | apply wz (tok Tryz.prog) | apply wr_z (tok Tryz.prog)); exact zZ; decide) | ((with_reducible first | apply w_ift'); exact zV; exact zU) | ((with_reducible first | apply w_draw0 mixed); (focus (decide +kernel))) | ((with_reducible apply w_ret); (repeat (with_reducible first | apply go_ret | apply blk_ret)); (with_reducible first | apply donef_ret (tok Tryz.prog) | apply doneA_ret (tok Tryz.prog)); exact zT; exact zD) | fail
        all_goals try clear tE
        exact ⟨rfl, hz0⟩
    · have h1 : ((i : Int) < (base.length : Int)) = False := by simp; omega
      have ei : i = base.length := by omega
      subst ei
      cases q with
      | nil =>
        have e1 : takE c [] = 6 := by simp [takE, hs.okq]
        rw [e1] at h31
        have tE := And.intro (@upd_upd AV) <| And.intro (@upd_upd (Option Blk)) <| And.intro h1 <| And.intro Cf.cells.eq_1 <| And.intro bbRows_len <| And.intro ty3 <| And.intro ty4 <| And.intro ty5 <| And.intro ty23 <| And.intro ty24 <| And.intro ty26 <| And.intro ty28 <| And.intro ty34 <| And.intro ty58 <| And.intro ty60 <| And.intro ty69 <| And.intro ty72 <| And.intro ty74 <| Tryz.results6; repeat' first | ((with_reducible first | apply w_seq | apply w_region | apply wl_nil | apply wr_nil | apply wr_nilA | apply wr_nilE | apply go_normal | apply go_ret | apply go_exit | apply blk_normal | apply blk_ret | apply blk_here | apply w_block | apply w_skip | apply w_exit | apply w_label)) | ((with_reducible first | apply wz (tok Tryz.prog) | apply wr_z (tok Tryz.prog)); exact zZ; decide) | ((with_reducible first | apply wzg (tok Tryz.prog) | apply wr_zg (tok Tryz.prog)); exact zU; exact zL; exact zU; exact zZ; decide) | ((with_reducible first | apply wskip' | apply wr_skip); exact zU; exact zL; exact zU; decide) | ((with_reducible first | apply w_alloc (tok Tryz.prog)); exact zT; decide) | ((with_reducible first | apply w_store (tok Tryz.prog)); exact zV; exact zV; exact zS) | ((with_reducible first | apply wcall' | apply wr_call); exact zV; exact zVs; exact zAs; (focus (with_unfolding_all first | exact h31)); decide) | ((with_reducible first | apply w_ift'); exact zV; exact zU) | ((with_reducible first | apply w_iff'); exact zV; exact zU) | ((with_reducible apply w_ret); (repeat (with_reducible first | apply go_ret | apply blk_ret)); (with_reducible first | apply donef_ret (tok Tryz.prog) | apply doneA_ret (tok Tryz.prog)); exact zT; exact zD) | fail
        all_goals try clear tE
        exact ⟨rfl, by rw [upd_ne _ _ (by omega)]; exact hz0⟩
      | cons u q =>
        have e1 : takE c (u :: q) = 0 := by simp [takE, hs.okq]
        have e2 : takU c (u :: q) = q := by simp [takU, hs.okq]
        have e3 : tak1 c (u :: q) = u := by simp [tak1, hs.okq]
        rw [e1, e2, e3] at h31
        have hm := qok_head hs.okq
        have hp := mayU_page hm
        obtain ⟨n, hn⟩ : ∃ n : Nat, u.p = n := ⟨u.p.toNat, by omega⟩
        have hbl := hs.len
        have hnl : n < base.length := by omega
        obtain ⟨b, hbn⟩ : ∃ b, base[n]? = some b := ⟨_, List.getElem?_eq_getElem hnl⟩
        have hba : baseAt base u.p = b := by rw [baseAt, hn, Int.toNat_natCast, List.getD_eq_getElem?_getD, hbn]; rfl
        have hbz := hall n b hnl hbn
        have hsv := serve_all hs (by rw [hba]; exact hbz)
        rw [hba] at hsv
        obtain ⟨s1, s2, s3⟩ := hsv
        have hdl : b.length ≤ 1000000 := by
          have := (good_cl (okF_parts hs.okf).1).2.1
          omega
        have hsg := srv_small c f u b hl hd hdl
        have hsg := srv_small c f u b hl hd hdl
        have n32 := (nf32 c f u b hl hd hdl).pf
        rw [s1] at n32
        generalize srvF c f u b = g at n32 s2 s3 hsg hsg
        have n0 : ((n : Int) < 0) = False := by simp
        have n1 : ((n : Int) ≥ (base.length : Int)) = False := by simp; exact hnl
        have n2 : (0 ≤ (n : Int)) = True := by simp
        have n3 : ((n : Int) < (base.length : Int)) = True := by simp; exact hnl
        have hr := bb_row hbn
        simp only [dnC.eq_1, hn] at n32
        have hpu := byteRows_pur u.d
        have hpb := byteRows_pur b
        have hbr := bbRows_row base
        have hbl := bbRows_len base
        have hgv : Pur (.vptr g.cells) := .vptr (fs_pur g)
        have hqv := unRows_pur q
        have hgv : Pur (.vptr g.cells) := .vptr (fs_pur g)
        have hqv := unRows_pur q
        have p1 : (k == k + 1) = false := by simp
        have p2 : (k + 1 == k) = false := by simp
        have p3 : (k == k + 1 + 1) = false := by rw [beq_eq_false_iff_ne]; omega
        have p4 : (k + 1 == k + 1 + 1) = false := by simp
        have p5 : (k + 1 + 1 == k) = false := by rw [beq_eq_false_iff_ne]; omega
        have p6 : (k + 1 + 1 == k + 1) = false := by simp
        have w5 : (n * 1 + 1 ≤ (bbRows base).flatten.length) = True := by rw [bbFlat_len]; simp; omega
        have w6 : (bbRows base).flatten.set (n * 1) (.view (byteRows u.d)) = (bbRows (base.set n u.d)).flatten := by rw [Nat.mul_one]; exact bbFlat_set base n u.d hnl
        by_cases hk : u.k = 2
        · have c2 : (u.k == 2) = true := by simp [hk]
          have eNB : nowB u base = (base.set n u.d) := by rw [nowB, if_pos hk, hn, Int.toNat_natCast]
          rw [eNB] at s2 s3
          have hnv := bbRows_pur (base.set n u.d)
          have hnb : (base.set n u.d).length = base.length := by simp
          have k29 := pf29 c g q (base.set n u.d) (by rw [hnb]; omega) (by simp at hq0; omega) hsg.1 (fun x hx => (hsg.2 x hx).2)
          rw [sB_true s2] at k29
          have tE := And.intro (@upd_upd AV) <| And.intro (@upd_upd (Option Blk)) <| And.intro h1 <| And.intro Cf.cells.eq_1 <| And.intro Fs.cells.eq_1 <| And.intro Un.cells.eq_1 <| And.intro bbRows_len <| And.intro hn <| And.intro n0 <| And.intro n1 <| And.intro n2 <| And.intro n3 <| And.intro hr <| And.intro c2 <| And.intro p1 <| And.intro p2 <| And.intro p3 <| And.intro p4 <| And.intro p5 <| And.intro p6 <| And.intro w5 <| And.intro w6 <| And.intro ty3 <| And.intro ty4 <| And.intro ty5 <| And.intro ty23 <| And.intro ty24 <| And.intro ty26 <| And.intro ty28 <| And.intro ty34 <| And.intro ty58 <| And.intro ty60 <| And.intro ty69 <| And.intro ty72 <| And.intro ty74 <| Tryz.results6; repeat' first | ((with_reducible first | apply w_seq | apply w_region | apply wl_nil | apply wr_nil | apply wr_nilA | apply wr_nilE | apply go_normal | apply go_ret | apply go_exit | apply blk_normal | apply blk_ret | apply blk_here | apply w_block | apply w_skip | apply w_exit | apply w_label)) | ((with_reducible apply w_live (lvAt [[0, 1, 2, 3], [2, 3, 4, 5], [2, 3, 4, 5, 9], [9], [2, 3, 4, 5, 9], [2, 3, 4, 5, 9, 10], [2, 3, 4, 5, 9, 10], [2, 3, 4, 5, 9, 10], [9], [2, 3, 4, 5, 9], [2, 3, 4, 5, 9, 11, 12, 13], [9, 13], [2, 3, 4, 5, 9, 11, 12], [2, 3, 4, 5, 9, 11, 12, 14, 15], [2, 3, 4, 5, 9, 11, 12, 14, 15, 16], [2, 3, 4, 5, 9, 11, 12, 14, 15, 16], [2, 3, 4, 5, 9, 11, 14, 15, 16], [], [2, 3, 4, 5, 9, 11, 14, 16], [2, 3, 4, 5, 9, 11, 14, 16, 17], [2, 3, 4, 5, 9, 11, 14, 16, 17], [2, 3, 4, 5, 9, 11, 14, 16, 17], [], [9]])); (focus (simp only [lvAt_zero, lvAt_succ]; rfl)); exact zLv) | ((with_reducible first | apply wz (tok Tryz.prog) | apply wr_z (tok Tryz.prog)); exact zZ; decide) | ((with_reducible first | apply wzg (tok Tryz.prog) | apply wr_zg (tok Tryz.prog)); exact zU; exact zL; exact zU; exact zZ; decide) | ((with_reducible first | apply w_alloc (tok Tryz.prog)); exact zT; decide) | ((with_reducible first | apply w_store (tok Tryz.prog)); exact zV; exact zV; exact zS) | ((with_reducible first | apply wcall' | apply wr_call); exact zV; exact zVs; exact zAs; (focus (with_unfolding_all first | exact h31 | exact n32)); decide) | ((with_reducible first | apply w_ap | apply wr_ap); (focus (first | (intro _ ho _ hr _; (with_reducible apply ap_new (tok Tryz.prog) ho (hr := hr)); exact zT; exact zU; exact zT; exact zT; exact zU; exact zA; exact zV; exact zK; exact zM; exact zK; exact zK; decide) | (intro _ ho _ hr _; (with_reducible apply ap_own (tok Tryz.prog) ho (hr := hr)); exact zT; exact zU; exact zT; exact zT; exact zU; exact zV; exact zV; exact zH; exact zKo; exact zM; (focus (first | rfl | assumption)); exact zKo; exact zKo; decide))); decide) | ((with_reducible first | apply wp | apply wr_p); (focus (first | ((with_reducible first | apply p_slv (tok Tryz.prog)); exact zT; exact zU; exact zT; exact zV; exact zN; exact zN; (focus (first | exact zU | exact zB)); (focus (first | exact zU | exact zB)); (focus (first | exact zU | assumption))) | ((with_reducible first | apply p_slo (tok Tryz.prog)); exact zT; exact zU; exact zT; exact zV; exact zN; exact zN; (focus (first | exact zU | exact zB)); (focus (first | exact zU | exact zB)); (focus (first | exact zU | assumption))) | ((with_reducible first | apply p_nil (tok Tryz.prog) | apply p_nnil (tok Tryz.prog)); exact zT; exact zV; exact zU) | ((with_reducible first | apply p_bs0 (tok Tryz.prog)); exact zT; exact zU; exact zT) | ((with_reducible first | apply p_ap0 (tok Tryz.prog)); exact zT; exact zU; exact zT; exact zT; exact zU; exact zA; exact zV; (focus (first | exact Or.inl rfl | exact Or.inr rfl))) | ((with_reducible first | apply p_bytes (tok Tryz.prog)); exact zT; exact zU; exact zT; exact zU; exact zT; exact zU; exact zV))); decide) | ((with_reducible first | apply w_ift'); exact zV; exact zU) | ((with_reducible first | apply w_iff'); exact zV; exact zU) | ((with_reducible first | apply fm_nil | apply fm_cons)) | ((with_reducible apply m_next); exact zU) | ((with_reducible first | apply m_v (tok Tryz.prog)); exact zU; exact zZ; decide) | ((with_reducible first | apply m_xA (tok Tryz.prog)); exact zU; exact zI; decide) | ((with_reducible first | apply m_xo (tok Tryz.prog)); exact zU; exact zZ; decide) | ((with_reducible apply m_nilO); exact zU; (focus (simp only [List.reverse_cons, List.reverse_nil, List.nil_append, List.cons_append]; rfl)); (focus (simp only [OwedAll, Owed, Nat.reduceAdd]; (repeat' apply And.intro); all_goals first | exact trivial | (intro h; exact absurd h (by decide +kernel)) | (intro _; exact zW)))) | ((with_reducible first | apply m_chg); exact zU; (focus (first | ((with_reducible apply c_alloc (tok Tryz.prog)); exact zT) | ((with_reducible apply c_ap); (focus (first | (intro _ ho _ hr _; (with_reducible apply ap_new (tok Tryz.prog) ho (hr := hr)); exact zT; exact zU; exact zT; exact zT; exact zU; exact zA; exact zV; exact zK; exact zM; exact zK; exact zK; decide) | (intro _ ho _ hr _; (with_reducible apply ap_own (tok Tryz.prog) ho (hr := hr)); exact zT; exact zU; exact zT; exact zT; exact zU; exact zV; exact zV; exact zH; exact zKo; exact zM; (focus (first | rfl | assumption)); exact zKo; exact zKo; decide)))))); decide) | ((with_reducible first | apply m_chg0); exact zU; (focus ((with_reducible apply c_store (tok Tryz.prog)); exact zV; exact zV; exact zS))) | ((with_reducible first | apply m_call); exact zU; exact zV; exact zVs; exact zAs; (focus (with_unfolding_all first | exact h31 | exact n32)); decide) | ((with_reducible apply w_drawN (id := 12) [13, 14] [([13, 14], [13, 0, 1, 2, 3, 4, 5, 6, 7, 8, 9, 10, 11, 14, 12, 15])] mixed); (focus (decide +kernel))) | fail
          all_goals try clear tE
          have hfz : Fz (fun j => if j = k + 1 + 1 then some (Blk.cells (bbRows (base.set n u.d)).flatten 28) else none) (.slice (k + 1 + 1) 0 base.length none 1) (.view (bbRows (base.set n u.d))) := fz_all hnb (if_pos rfl)
          refine wl_ghost (g_frz2 (d1 := 16) (d2 := 112) (id := k + 1 + 1) (b := .cells (bbRows (base.set n u.d)).flatten 28) (y1 := .view (bbRows (base.set n u.d))) (y2 := .view (bbRows (base.set n u.d))) (upd_same _ _ _) rfl rfl hfz hfz) ?_
          have tE := And.intro (@upd_upd AV) <| And.intro (@upd_upd (Option Blk)) <| And.intro h1 <| And.intro Cf.cells.eq_1 <| And.intro Fs.cells.eq_1 <| And.intro Un.cells.eq_1 <| And.intro bbRows_len <| And.intro hn <| And.intro n0 <| And.intro n1 <| And.intro n2 <| And.intro n3 <| And.intro hr <| And.intro c2 <| And.intro p1 <| And.intro p2 <| And.intro p3 <| And.intro p4 <| And.intro p5 <| And.intro p6 <| And.intro ty3 <| And.intro ty4 <| And.intro ty5 <| And.intro ty23 <| And.intro ty24 <| And.intro ty26 <| And.intro ty28 <| And.intro ty34 <| And.intro ty58 <| And.intro ty60 <| And.intro ty69 <| And.intro ty72 <| And.intro ty74 <| Tryz.results6; repeat' first | ((with_reducible first | apply w_seq | apply w_region | apply wl_nil | apply wr_nil | apply wr_nilA | apply wr_nilE | apply go_normal | apply go_ret | apply go_exit | apply blk_normal | apply blk_ret | apply blk_here | apply w_block | apply w_skip | apply w_exit | apply w_label)) | ((with_reducible first | apply wz (tok Tryz.prog) | apply wr_z (tok Tryz.prog)); exact zZ; decide) | ((with_reducible first | apply wzg (tok Tryz.prog) | apply wr_zg (tok Tryz.prog)); exact zU; exact zL; exact zU; exact zZ; decide) | ((with_reducible first | apply wcallg' | apply wr_callg); exact zU; exact zL; exact zU; exact zV; exact zVs; exact zAs; (focus (with_unfolding_all first | exact k29)); decide) | ((with_reducible first | apply w_iff'); exact zV; exact zU) | fail
          all_goals try clear tE
          refine w_loopP (S := Nat) (fun i => [(2, .view (unRows (u :: q))), (3, .view (bbRows base)), (4, .vptr c.cells), (5, .vptr f.cells), (9, .bool true), (11, .view (unRows q)), (14, .ptr (k + 1) 0), (16, .view (bbRows (base.set n u.d))), (17, .int .i64 (i : Int))]) [] (fun i H' k' => i ≤ c.p ∧ H' 0 = hF base0 0 ∧ H' (k + 1) = some (.cells g.cells 26)) (fun i => (c.p - i).toNat) 0 ?_ rfl ?_ ?_
          · (have tE := And.intro (@upd_upd AV) <| And.intro (@upd_upd (Option Blk)) <| And.intro Fs.cells.eq_1 <| Cf.cells.eq_1; simp only [fitsT, List.take_zero, List.length_nil, sp_cons, sp_nil, upd_b, Nat.reduceBEq, cond_true, cond_false, args0_zero, args0_succ, args0_nil, tE]; repeat' first | exact trivial | apply And.intro | exact Sub.refl _ | exact Sub.cap)
          · refine ⟨by omega, ?_, ?_⟩
            · simp only []
              rw [upd_ne _ _ (by omega), upd_ne _ _ (by omega), upd_ne _ _ (by omega), upd_ne _ _ (by omega)]
              exact hz0
            · simp only []
              rw [upd_ne _ _ (by omega), upd_ne _ _ (by omega), upd_same]
              rfl
          · rintro i H2 k2 ⟨hi2, hy0, hg2⟩
            have hg2 : H2 (k + 1) = some (.cells [.view (frRows g.l), .int .i64 g.h] 26) := hg2
            have hw : IntKind.i64.wrap ((i : Int) + 1) = ((i + 1 : Nat) : Int) := by rw [wrap64 (by omega) (by omega)]; rfl
            by_cases e : (i : Int) < c.p
            · have e1 : ((i : Int) < c.p) = True := by simp [e]
              have t30 := pf30 g q (base.set n u.d) i (by rw [hnb]; omega) (by rw [hnb]; omega) (by simp at hq0; omega) hsg.1
              rw [s3 i (by omega) e] at t30
              have u30 := pf30 f (u :: q) base i (by omega) (by omega) (by omega) hl
              have t23 := pf23 (content f (u :: q) base i) (content f (u :: q) base i)
              rw [decide_eq_true rfl] at t23
              have hcv : Pur (.vptr c.cells) := .vptr (cells_pur c)
              have hfv : Pur (.vptr f.cells) := .vptr (fs_pur f)
              have hpc := byteRows_pur (content f (u :: q) base i)
              have tE := And.intro (@upd_upd AV) <| And.intro (@upd_upd (Option Blk)) <| And.intro e1 <| And.intro hw <| And.intro hg2 <| And.intro Fs.cells.eq_1 <| And.intro Cf.cells.eq_1 <| And.intro ty3 <| And.intro ty4 <| And.intro ty5 <| And.intro ty23 <| And.intro ty24 <| And.intro ty26 <| And.intro ty28 <| And.intro ty34 <| And.intro ty58 <| And.intro ty60 <| And.intro ty69 <| And.intro ty72 <| And.intro ty74 <| Tryz.results6; repeat' first | ((with_reducible first | apply w_seq | apply w_region | apply wl_nil | apply wr_nil | apply wr_nilA | apply wr_nilE | apply go_normal | apply go_ret | apply go_exit | apply blk_normal | apply blk_ret | apply blk_here | apply w_block | apply w_skip | apply w_exit | apply w_label)) | ((with_reducible apply w_live (lvAt [[0, 1, 2, 3], [2, 3, 4, 5], [2, 3, 4, 5, 9], [9], [2, 3, 4, 5, 9], [2, 3, 4, 5, 9, 10], [2, 3, 4, 5, 9, 10], [2, 3, 4, 5, 9, 10], [9], [2, 3, 4, 5, 9], [2, 3, 4, 5, 9, 11, 12, 13], [9, 13], [2, 3, 4, 5, 9, 11, 12], [2, 3, 4, 5, 9, 11, 12, 14, 15], [2, 3, 4, 5, 9, 11, 12, 14, 15, 16], [2, 3, 4, 5, 9, 11, 12, 14, 15, 16], [2, 3, 4, 5, 9, 11, 14, 15, 16], [], [2, 3, 4, 5, 9, 11, 14, 16], [2, 3, 4, 5, 9, 11, 14, 16, 17], [2, 3, 4, 5, 9, 11, 14, 16, 17], [2, 3, 4, 5, 9, 11, 14, 16, 17], [], [9]])); (focus (simp only [lvAt_zero, lvAt_succ]; rfl)); exact zLv) | ((with_reducible first | apply wz (tok Tryz.prog) | apply wr_z (tok Tryz.prog)); exact zZ; decide) | ((with_reducible first | apply wcall' | apply wr_call); exact zV; exact zVs; exact zAs; (focus (with_unfolding_all first | exact t30 | exact u30 | exact t23)); decide) | ((with_reducible first | apply w_ift'); exact zV; exact zU) | ((with_reducible first | apply w_iff'); exact zV; exact zU) | ((with_reducible first | apply w_draw0 mixed); (focus (decide +kernel))) | fail
              all_goals try clear tE
              refine ⟨i + 1, by omega, ⟨by omega, hy0, hg2⟩, rfl, ?_⟩
              (have tE := And.intro (@upd_upd AV) <| And.intro (@upd_upd (Option Blk)) <| And.intro hw <| And.intro Fs.cells.eq_1 <| Cf.cells.eq_1; simp only [fitsT, List.take_zero, List.length_nil, sp_cons, sp_nil, upd_b, Nat.reduceBEq, cond_true, cond_false, args0_zero, args0_succ, args0_nil, tE]; repeat' first | exact trivial | apply And.intro | exact Sub.refl _ | exact Sub.cap)
            · have e1 : ((i : Int) < c.p) = False := by simp; omega
              have tE := And.intro (@upd_upd AV) <| And.intro (@upd_upd (Option Blk)) <| And.intro e1 <| And.intro hg2 <| And.intro Fs.cells.eq_1 <| And.intro Cf.cells.eq_1 <| And.intro ty3 <| And.intro ty4 <| And.intro ty5 <| And.intro ty23 <| And.intro ty24 <| And.intro ty26 <| And.intro ty28 <| And.intro ty34 <| And.intro ty58 <| And.intro ty60 <| And.intro ty69 <| And.intro ty72 <| And.intro ty74 <| Tryz.results6; repeat' first | ((with_reducible first | apply w_seq | apply w_region | apply wl_nil | apply wr_nil | apply wr_nilA | apply wr_nilE | apply go_normal | apply go_ret | apply go_exit | apply blk_normal | apply blk_ret | apply blk_here | apply w_block | apply w_skip | apply w_exit | apply w_label)) | ((with_reducible first | apply wz (tok Tryz.prog) | apply wr_z (tok Tryz.prog)); exact zZ; decide) | ((with_reducible first | apply w_iff'); exact zV; exact zU) | ((with_reducible apply w_ret); (repeat (with_reducible first | apply go_ret | apply blk_ret)); (with_reducible first | apply donef_ret (tok Tryz.prog) | apply doneA_ret (tok Tryz.prog)); exact zT; exact zD) | fail
              all_goals try clear tE
              exact ⟨rfl, hy0⟩
        · have c2 : (u.k == 2) = false := by simp [hk]
          have eNB : nowB u base = base := if_neg hk
          rw [eNB] at s2 s3
          have hnv := bbRows_pur base
          have hnb : base.length = base.length := by simp
          have k29 := pf29 c g q base (by rw [hnb]; omega) (by simp at hq0; omega) hsg.1 (fun x hx => (hsg.2 x hx).2)
          rw [sB_true s2] at k29
          have tE := And.intro (@upd_upd AV) <| And.intro (@upd_upd (Option Blk)) <| And.intro h1 <| And.intro Cf.cells.eq_1 <| And.intro Fs.cells.eq_1 <| And.intro Un.cells.eq_1 <| And.intro bbRows_len <| And.intro hn <| And.intro n0 <| And.intro n1 <| And.intro n2 <| And.intro n3 <| And.intro hr <| And.intro c2 <| And.intro p1 <| And.intro p2 <| And.intro p3 <| And.intro p4 <| And.intro p5 <| And.intro p6 <| And.intro ty3 <| And.intro ty4 <| And.intro ty5 <| And.intro ty23 <| And.intro ty24 <| And.intro ty26 <| And.intro ty28 <| And.intro ty34 <| And.intro ty58 <| And.intro ty60 <| And.intro ty69 <| And.intro ty72 <| And.intro ty74 <| Tryz.results6; repeat' first | ((with_reducible first | apply w_seq | apply w_region | apply wl_nil | apply wr_nil | apply wr_nilA | apply wr_nilE | apply go_normal | apply go_ret | apply go_exit | apply blk_normal | apply blk_ret | apply blk_here | apply w_block | apply w_skip | apply w_exit | apply w_label)) | ((with_reducible apply w_live (lvAt [[0, 1, 2, 3], [2, 3, 4, 5], [2, 3, 4, 5, 9], [9], [2, 3, 4, 5, 9], [2, 3, 4, 5, 9, 10], [2, 3, 4, 5, 9, 10], [2, 3, 4, 5, 9, 10], [9], [2, 3, 4, 5, 9], [2, 3, 4, 5, 9, 11, 12, 13], [9, 13], [2, 3, 4, 5, 9, 11, 12], [2, 3, 4, 5, 9, 11, 12, 14, 15], [2, 3, 4, 5, 9, 11, 12, 14, 15, 16], [2, 3, 4, 5, 9, 11, 12, 14, 15, 16], [2, 3, 4, 5, 9, 11, 14, 15, 16], [], [2, 3, 4, 5, 9, 11, 14, 16], [2, 3, 4, 5, 9, 11, 14, 16, 17], [2, 3, 4, 5, 9, 11, 14, 16, 17], [2, 3, 4, 5, 9, 11, 14, 16, 17], [], [9]])); (focus (simp only [lvAt_zero, lvAt_succ]; rfl)); exact zLv) | ((with_reducible first | apply wz (tok Tryz.prog) | apply wr_z (tok Tryz.prog)); exact zZ; decide) | ((with_reducible first | apply wzg (tok Tryz.prog) | apply wr_zg (tok Tryz.prog)); exact zU; exact zL; exact zU; exact zZ; decide) | ((with_reducible first | apply w_alloc (tok Tryz.prog)); exact zT; decide) | ((with_reducible first | apply w_store (tok Tryz.prog)); exact zV; exact zV; exact zS) | ((with_reducible first | apply wcall' | apply wr_call); exact zV; exact zVs; exact zAs; (focus (with_unfolding_all first | exact h31 | exact n32)); decide) | ((with_reducible first | apply w_ap | apply wr_ap); (focus (first | (intro _ ho _ hr _; (with_reducible apply ap_new (tok Tryz.prog) ho (hr := hr)); exact zT; exact zU; exact zT; exact zT; exact zU; exact zA; exact zV; exact zK; exact zM; exact zK; exact zK; decide) | (intro _ ho _ hr _; (with_reducible apply ap_own (tok Tryz.prog) ho (hr := hr)); exact zT; exact zU; exact zT; exact zT; exact zU; exact zV; exact zV; exact zH; exact zKo; exact zM; (focus (first | rfl | assumption)); exact zKo; exact zKo; decide))); decide) | ((with_reducible first | apply wp | apply wr_p); (focus (first | ((with_reducible first | apply p_slv (tok Tryz.prog)); exact zT; exact zU; exact zT; exact zV; exact zN; exact zN; (focus (first | exact zU | exact zB)); (focus (first | exact zU | exact zB)); (focus (first | exact zU | assumption))) | ((with_reducible first | apply p_slo (tok Tryz.prog)); exact zT; exact zU; exact zT; exact zV; exact zN; exact zN; (focus (first | exact zU | exact zB)); (focus (first | exact zU | exact zB)); (focus (first | exact zU | assumption))) | ((with_reducible first | apply p_nil (tok Tryz.prog) | apply p_nnil (tok Tryz.prog)); exact zT; exact zV; exact zU) | ((with_reducible first | apply p_bs0 (tok Tryz.prog)); exact zT; exact zU; exact zT) | ((with_reducible first | apply p_ap0 (tok Tryz.prog)); exact zT; exact zU; exact zT; exact zT; exact zU; exact zA; exact zV; (focus (first | exact Or.inl rfl | exact Or.inr rfl))) | ((with_reducible first | apply p_bytes (tok Tryz.prog)); exact zT; exact zU; exact zT; exact zU; exact zT; exact zU; exact zV))); decide) | ((with_reducible first | apply w_iff'); exact zV; exact zU) | ((with_reducible first | apply fm_nil | apply fm_cons)) | ((with_reducible apply m_next); exact zU) | ((with_reducible first | apply m_v (tok Tryz.prog)); exact zU; exact zZ; decide) | ((with_reducible first | apply m_xA (tok Tryz.prog)); exact zU; exact zI; decide) | ((with_reducible first | apply m_xo (tok Tryz.prog)); exact zU; exact zZ; decide) | ((with_reducible apply m_nilO); exact zU; (focus (simp only [List.reverse_cons, List.reverse_nil, List.nil_append, List.cons_append]; rfl)); (focus (simp only [OwedAll, Owed, Nat.reduceAdd]; (repeat' apply And.intro); all_goals first | exact trivial | (intro h; exact absurd h (by decide +kernel)) | (intro _; exact zW)))) | ((with_reducible first | apply m_chg); exact zU; (focus (first | ((with_reducible apply c_alloc (tok Tryz.prog)); exact zT) | ((with_reducible apply c_ap); (focus (first | (intro _ ho _ hr _; (with_reducible apply ap_new (tok Tryz.prog) ho (hr := hr)); exact zT; exact zU; exact zT; exact zT; exact zU; exact zA; exact zV; exact zK; exact zM; exact zK; exact zK; decide) | (intro _ ho _ hr _; (with_reducible apply ap_own (tok Tryz.prog) ho (hr := hr)); exact zT; exact zU; exact zT; exact zT; exact zU; exact zV; exact zV; exact zH; exact zKo; exact zM; (focus (first | rfl | assumption)); exact zKo; exact zKo; decide)))))); decide) | ((with_reducible first | apply m_chg0); exact zU; (focus ((with_reducible apply c_store (tok Tryz.prog)); exact zV; exact zV; exact zS))) | ((with_reducible first | apply m_call); exact zU; exact zV; exact zVs; exact zAs; (focus (with_unfolding_all first | exact h31 | exact n32)); decide) | ((with_reducible apply w_drawN (id := 12) [13, 14] [([13, 14], [13, 0, 1, 2, 3, 4, 5, 6, 7, 8, 9, 10, 11, 14, 12, 15])] mixed); (focus (decide +kernel))) | fail
          all_goals try clear tE
          have hfz : Fz (fun j => if j = k + 1 + 1 then some (Blk.cells (bbRows base).flatten 28) else none) (.slice (k + 1 + 1) 0 base.length none 1) (.view (bbRows base)) := fz_all hnb (if_pos rfl)
          refine wl_ghost (g_frz2 (d1 := 16) (d2 := 112) (id := k + 1 + 1) (b := .cells (bbRows base).flatten 28) (y1 := .view (bbRows base)) (y2 := .view (bbRows base)) (upd_same _ _ _) rfl rfl hfz hfz) ?_
          have tE := And.intro (@upd_upd AV) <| And.intro (@upd_upd (Option Blk)) <| And.intro h1 <| And.intro Cf.cells.eq_1 <| And.intro Fs.cells.eq_1 <| And.intro Un.cells.eq_1 <| And.intro bbRows_len <| And.intro hn <| And.intro n0 <| And.intro n1 <| And.intro n2 <| And.intro n3 <| And.intro hr <| And.intro c2 <| And.intro p1 <| And.intro p2 <| And.intro p3 <| And.intro p4 <| And.intro p5 <| And.intro p6 <| And.intro ty3 <| And.intro ty4 <| And.intro ty5 <| And.intro ty23 <| And.intro ty24 <| And.intro ty26 <| And.intro ty28 <| And.intro ty34 <| And.intro ty58 <| And.intro ty60 <| And.intro ty69 <| And.intro ty72 <| And.intro ty74 <| Tryz.results6; repeat' first | ((with_reducible first | apply w_seq | apply w_region | apply wl_nil | apply wr_nil | apply wr_nilA | apply wr_nilE | apply go_normal | apply go_ret | apply go_exit | apply blk_normal | apply blk_ret | apply blk_here | apply w_block | apply w_skip | apply w_exit | apply w_label)) | ((with_reducible first | apply wz (tok Tryz.prog) | apply wr_z (tok Tryz.prog)); exact zZ; decide) | ((with_reducible first | apply wzg (tok Tryz.prog) | apply wr_zg (tok Tryz.prog)); exact zU; exact zL; exact zU; exact zZ; decide) | ((with_reducible first | apply wcallg' | apply wr_callg); exact zU; exact zL; exact zU; exact zV; exact zVs; exact zAs; (focus (with_unfolding_all first | exact k29)); decide) | ((with_reducible first | apply w_iff'); exact zV; exact zU) | fail
          all_goals try clear tE
          refine w_loopP (S := Nat) (fun i => [(2, .view (unRows (u :: q))), (3, .view (bbRows base)), (4, .vptr c.cells), (5, .vptr f.cells), (9, .bool true), (11, .view (unRows q)), (14, .ptr (k + 1) 0), (16, .view (bbRows base)), (17, .int .i64 (i : Int))]) [] (fun i H' k' => i ≤ c.p ∧ H' 0 = hF base0 0 ∧ H' (k + 1) = some (.cells g.cells 26)) (fun i => (c.p - i).toNat) 0 ?_ rfl ?_ ?_
          · (have tE := And.intro (@upd_upd AV) <| And.intro (@upd_upd (Option Blk)) <| And.intro Fs.cells.eq_1 <| Cf.cells.eq_1; simp only [fitsT, List.take_zero, List.length_nil, sp_cons, sp_nil, upd_b, Nat.reduceBEq, cond_true, cond_false, args0_zero, args0_succ, args0_nil, tE]; repeat' first | exact trivial | apply And.intro | exact Sub.refl _ | exact Sub.cap)
          · refine ⟨by omega, ?_, ?_⟩
            · simp only []
              rw [upd_ne _ _ (by omega), upd_ne _ _ (by omega), upd_ne _ _ (by omega), upd_ne _ _ (by omega)]
              exact hz0
            · simp only []
              rw [upd_ne _ _ (by omega), upd_ne _ _ (by omega), upd_same]
              rfl
          · rintro i H2 k2 ⟨hi2, hy0, hg2⟩
            have hg2 : H2 (k + 1) = some (.cells [.view (frRows g.l), .int .i64 g.h] 26) := hg2
            have hw : IntKind.i64.wrap ((i : Int) + 1) = ((i + 1 : Nat) : Int) := by rw [wrap64 (by omega) (by omega)]; rfl
            by_cases e : (i : Int) < c.p
            · have e1 : ((i : Int) < c.p) = True := by simp [e]
              have t30 := pf30 g q base i (by rw [hnb]; omega) (by rw [hnb]; omega) (by simp at hq0; omega) hsg.1
              rw [s3 i (by omega) e] at t30
              have u30 := pf30 f (u :: q) base i (by omega) (by omega) (by omega) hl
              have t23 := pf23 (content f (u :: q) base i) (content f (u :: q) base i)
              rw [decide_eq_true rfl] at t23
              have hcv : Pur (.vptr c.cells) := .vptr (cells_pur c)
              have hfv : Pur (.vptr f.cells) := .vptr (fs_pur f)
              have hpc := byteRows_pur (content f (u :: q) base i)
              have tE := And.intro (@upd_upd AV) <| And.intro (@upd_upd (Option Blk)) <| And.intro e1 <| And.intro hw <| And.intro hg2 <| And.intro Fs.cells.eq_1 <| And.intro Cf.cells.eq_1 <| And.intro ty3 <| And.intro ty4 <| And.intro ty5 <| And.intro ty23 <| And.intro ty24 <| And.intro ty26 <| And.intro ty28 <| And.intro ty34 <| And.intro ty58 <| And.intro ty60 <| And.intro ty69 <| And.intro ty72 <| And.intro ty74 <| Tryz.results6; repeat' first | ((with_reducible first | apply w_seq | apply w_region | apply wl_nil | apply wr_nil | apply wr_nilA | apply wr_nilE | apply go_normal | apply go_ret | apply go_exit | apply blk_normal | apply blk_ret | apply blk_here | apply w_block | apply w_skip | apply w_exit | apply w_label)) | ((with_reducible apply w_live (lvAt [[0, 1, 2, 3], [2, 3, 4, 5], [2, 3, 4, 5, 9], [9], [2, 3, 4, 5, 9], [2, 3, 4, 5, 9, 10], [2, 3, 4, 5, 9, 10], [2, 3, 4, 5, 9, 10], [9], [2, 3, 4, 5, 9], [2, 3, 4, 5, 9, 11, 12, 13], [9, 13], [2, 3, 4, 5, 9, 11, 12], [2, 3, 4, 5, 9, 11, 12, 14, 15], [2, 3, 4, 5, 9, 11, 12, 14, 15, 16], [2, 3, 4, 5, 9, 11, 12, 14, 15, 16], [2, 3, 4, 5, 9, 11, 14, 15, 16], [], [2, 3, 4, 5, 9, 11, 14, 16], [2, 3, 4, 5, 9, 11, 14, 16, 17], [2, 3, 4, 5, 9, 11, 14, 16, 17], [2, 3, 4, 5, 9, 11, 14, 16, 17], [], [9]])); (focus (simp only [lvAt_zero, lvAt_succ]; rfl)); exact zLv) | ((with_reducible first | apply wz (tok Tryz.prog) | apply wr_z (tok Tryz.prog)); exact zZ; decide) | ((with_reducible first | apply wcall' | apply wr_call); exact zV; exact zVs; exact zAs; (focus (with_unfolding_all first | exact t30 | exact u30 | exact t23)); decide) | ((with_reducible first | apply w_ift'); exact zV; exact zU) | ((with_reducible first | apply w_iff'); exact zV; exact zU) | ((with_reducible first | apply w_draw0 mixed); (focus (decide +kernel))) | fail
              all_goals try clear tE
              refine ⟨i + 1, by omega, ⟨by omega, hy0, hg2⟩, rfl, ?_⟩
              (have tE := And.intro (@upd_upd AV) <| And.intro (@upd_upd (Option Blk)) <| And.intro hw <| And.intro Fs.cells.eq_1 <| Cf.cells.eq_1; simp only [fitsT, List.take_zero, List.length_nil, sp_cons, sp_nil, upd_b, Nat.reduceBEq, cond_true, cond_false, args0_zero, args0_succ, args0_nil, tE]; repeat' first | exact trivial | apply And.intro | exact Sub.refl _ | exact Sub.cap)
            · have e1 : ((i : Int) < c.p) = False := by simp; omega
              have tE := And.intro (@upd_upd AV) <| And.intro (@upd_upd (Option Blk)) <| And.intro e1 <| And.intro hg2 <| And.intro Fs.cells.eq_1 <| And.intro Cf.cells.eq_1 <| And.intro ty3 <| And.intro ty4 <| And.intro ty5 <| And.intro ty23 <| And.intro ty24 <| And.intro ty26 <| And.intro ty28 <| And.intro ty34 <| And.intro ty58 <| And.intro ty60 <| And.intro ty69 <| And.intro ty72 <| And.intro ty74 <| Tryz.results6; repeat' first | ((with_reducible first | apply w_seq | apply w_region | apply wl_nil | apply wr_nil | apply wr_nilA | apply wr_nilE | apply go_normal | apply go_ret | apply go_exit | apply blk_normal | apply blk_ret | apply blk_here | apply w_block | apply w_skip | apply w_exit | apply w_label)) | ((with_reducible first | apply wz (tok Tryz.prog) | apply wr_z (tok Tryz.prog)); exact zZ; decide) | ((with_reducible first | apply w_iff'); exact zV; exact zU) | ((with_reducible apply w_ret); (repeat (with_reducible first | apply go_ret | apply blk_ret)); (with_reducible first | apply donef_ret (tok Tryz.prog) | apply doneA_ret (tok Tryz.prog)); exact zT; exact zD) | fail
              all_goals try clear tE
              exact ⟨rfl, hy0⟩
theorem ac6 [GO] (hgo : GoOK) (c : Cf) (f : Fs) (q : List Un) (base : List (List UInt8)) :
    AC Tryz.prog 6 [.agg c.cells, .agg f.cells, .view (unRows q), .view (bbRows base)] (hF base0) 1 (fun r H n => r = .ret (.bool true) ∧ H 0 = hF base0 0) := by
  have h29 : base.length ≤ 64 → (greatF f.l || great q) = false → PF Tryz.prog 29 [.agg c.cells, .agg f.cells, .view (unRows q), .view (bbRows base)] (fun r => r = .bool (sB c f q base)) := fun hb hg => by
    simp only [Bool.or_eq_false_iff] at hg
    obtain ⟨hl0, hd0⟩ := great_small hg.1
    obtain ⟨hq0, hqd⟩ := great_few hg.2
    exact pf29 c f q base (by omega) (by omega) (by omega) (fun x hx => by have := hd0 x hx; omega)
  cases hg : (greatF f.l || great q) with
  | true => exact ac6_early hgo c f q base (.inl hg) h29
  | false =>
    by_cases hb : base.length > 64
    · exact ac6_early hgo c f q base (.inr (.inl hb)) h29
    · by_cases hs : Sound c f q base
      · exact ac6_main hgo c f q base hg (by omega) hs
      · exact ac6_early hgo c f q base (.inr (.inr ⟨hg, by omega, hs⟩)) h29
end Go.Proofs.YtlmighkbeacjnaaGreatDoor

