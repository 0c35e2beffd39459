/- The clock's round, and frames.Victim. -/
import Derived.Test.YtlmighkbeacjnaaF7
open Go Go.Lg
set_option linter.unusedSimpArgs false
set_option linter.unusedVariables false
set_option maxHeartbeats 4000000
set_option maxRecDepth 20000
namespace Go.Proofs.Ytlmighkbeacjnaa
theorem round_pur (f : Fs) : Pur (.func (.func 86) [] [.vptr f.cells]) := .func (fun _ h => (nomatch h)) (args_1 (.vptr (fs_pur f)))
theorem pf48 (f : Fs) : PF Try.prog 48 [.agg f.cells] (fun r => r = .func (.func 86) [] [.vptr f.cells]) := by
  refine pf_of_w0 Try.func48 (c := _) rfl rfl (Nat.le_of_ble_eq_true rfl) (args_1 (fsa_pur f)) ?_
  rw [show Try.f48.ntmps = 4 from rfl]
  have hp := round_pur f
  have hp' : Pur (.func (.func 86) [] [.vptr [.view (frRows f.l), .int .i64 f.h]]) := hp
  have tE := And.intro (@upd_upd AV) <| And.intro (@upd_upd (Option Blk)) <| And.intro Fs.cells.eq_1 <| And.intro ty3 <| And.intro ty4 <| And.intro ty5 <| And.intro ty24 <| And.intro ty26 <| And.intro ty34 <| And.intro ty35 <| And.intro ty37 <| Try.results48; repeat' first | ((with_reducible first | apply w_seq | apply w_region | apply wl_nil | apply wr_nil | apply wr_nilA | apply wr_nilE | apply go_normal | apply go_ret | apply go_exit | apply blk_normal | apply blk_ret | apply blk_here | apply w_block | apply w_skip | apply w_exit | apply w_label)) | ((with_reducible first | apply wz (tok Try.prog) | apply wr_z (tok Try.prog)); exact zZ; decide) | ((with_reducible apply w_ret); (repeat (with_reducible first | apply go_ret | apply blk_ret)); (with_reducible apply done_ret (tok Try.prog)); exact zT; exact zD; exact zX) | fail
  all_goals try clear tE
  rfl
theorem cat_rem {h n i : Nat} (hn : 0 < n) : Int.tmod ((h : Int) + i) n = ((cat h n i : Nat) : Int) := by
  unfold cat
  rw [show ((h : Int) + i) = ((h + i : Nat) : Int) by omega]
  rfl
theorem ac86 (f : Fs) (h : Nat) (hh : f.h = h) (hl0 : 0 < f.l.length) (hl : f.l.length ≤ 1000000) (hhl : h < f.l.length) (id k : Nat) (H0 : Heap) (J S : Nat → Heap → Nat → Prop)
    (hround : ∀ i H n, i < 2 * f.l.length → J i H n → YC Try.prog id [.int .i64 ((cat h f.l.length i : Nat) : Int)] H n (fun b H' n' => (b = true ∧ J (i + 1) H' n') ∨ (b = false ∧ S i H' n')))
    (h0 : J 0 H0 k) : AC Try.prog 86 [.yieldf id, .vptr f.cells] H0 k (fun r H n => r = .ret (.tuple []) ∧ (J (2 * f.l.length) H n ∨ ∃ i, S i H n)) := by
  refine ac_of_wd Try.func86 (c := _) rfl (Nat.le_of_ble_eq_true rfl) ?_
  rw [show Try.f86.ntmps = 23 from rfl]
  have e1 : IntKind.i64.wrap (2 * (f.l.length : Int)) = ((2 * f.l.length : Nat) : Int) := by rw [wrap64 (by omega) (by omega)]; omega
  have tE := And.intro (@upd_upd AV) <| And.intro (@upd_upd (Option Blk)) <| And.intro Fs.cells.eq_1 <| And.intro frRows_len <| And.intro e1 <| And.intro ty3 <| And.intro ty4 <| And.intro ty5 <| And.intro ty24 <| And.intro ty26 <| And.intro ty34 <| And.intro ty35 <| And.intro ty37 <| Try.results86; repeat' first | ((with_reducible first | apply w_seq | apply w_region | apply wl_nil | apply wr_nil | apply wr_nilA | apply wr_nilE | apply go_normal | apply go_ret | apply go_exit | apply blk_normal | apply blk_ret | apply blk_here | apply w_block | apply w_skip | apply w_exit | apply w_label)) | ((with_reducible first | apply wz (tok Try.prog) | apply wr_z (tok Try.prog)); exact zZ; decide) | fail
  all_goals try clear tE
  refine w_loop (fun kk σ => ∃ i : Nat, kk + i = 2 * f.l.length ∧ J i σ.h σ.n ∧ σ.tm 0 = .yieldf id ∧ σ.tm 1 = .vptr f.cells ∧ σ.tm 7 = .int .i64 ((2 * f.l.length : Nat) : Int) ∧ σ.tm 8 = .int .i64 (i : Int) ∧ σ.df = []) (2 * f.l.length) ⟨0, rfl, h0, rfl, rfl, rfl, rfl, rfl⟩ ?_
  rintro kk ⟨tm, H, nn, df⟩ ⟨i, hk, hJ, t0, t1, t7, t8, rfl⟩
  simp only at t0 t1 t7 t8 hJ
  by_cases e : i < 2 * f.l.length
  · have g1 : ((i : Int) < ((2 * f.l.length : Nat) : Int)) = True := by simp; omega
    have hw : IntKind.i64.wrap ((i : Int) + 1) = ((i + 1 : Nat) : Int) := by rw [wrap64 (by omega) (by omega)]; rfl
    have hw2 : IntKind.i64.wrap (f.h + (i : Int)) = (h : Int) + i := by rw [hh, wrap64 (by omega) (by omega)]
    have hy := hround i H nn e hJ
    have hne : ((f.l.length : Int) = 0) = False := eq_false (by omega)
    have hrem := cat_rem (h := h) (n := f.l.length) (i := i) hl0
    have tE := And.intro (@upd_upd AV) <| And.intro (@upd_upd (Option Blk)) <| And.intro t0 <| And.intro t1 <| And.intro t7 <| And.intro t8 <| And.intro g1 <| And.intro hw <| And.intro hw2 <| And.intro hne <| And.intro hrem <| And.intro Fs.cells.eq_1 <| And.intro frRows_len <| And.intro ty3 <| And.intro ty4 <| And.intro ty5 <| And.intro ty24 <| And.intro ty26 <| And.intro ty34 <| And.intro ty35 <| And.intro ty37 <| Try.results86; repeat' first | ((with_reducible first | apply w_seq | apply w_region | apply wl_nil | apply wr_nil | apply wr_nilA | apply wr_nilE | apply go_normal | apply go_ret | apply go_exit | apply blk_normal | apply blk_ret | apply blk_here | apply w_block | apply w_skip | apply w_exit | apply w_label)) | ((with_reducible first | apply wz (tok Try.prog) | apply wr_z (tok Try.prog)); exact zZ; decide) | ((with_reducible first | apply w_ift'); exact zV; exact zU) | fail
    all_goals try clear tE
    refine wl_yield (by simp only [evo, t0, sp_cons, sp_nil, upd_b, Nat.reduceBEq, cond_true, cond_false, args0_zero, args0_succ, args0_nil]; rfl) (by simp only [evs, evo, sp_cons, sp_nil, upd_b, Nat.reduceBEq, cond_true, cond_false, args0_zero, args0_succ, args0_nil]; rfl) (by exact hy) (by decide) ?_
    rintro b H' n' (⟨rfl, hJ'⟩ | ⟨rfl, hS⟩)
    · have tE := And.intro (@upd_upd AV) <| And.intro (@upd_upd (Option Blk)) <| And.intro t0 <| And.intro t1 <| And.intro t7 <| And.intro t8 <| And.intro g1 <| And.intro hw <| And.intro hw2 <| And.intro ty3 <| And.intro ty4 <| And.intro ty5 <| And.intro ty24 <| And.intro ty26 <| And.intro ty34 <| And.intro ty35 <| And.intro ty37 <| Try.results86; repeat' first | ((with_reducible first | apply w_seq | apply w_region | apply wl_nil | apply wr_nil | apply wr_nilA | apply wr_nilE | apply go_normal | apply go_ret | apply go_exit | apply blk_normal | apply blk_ret | apply blk_here | apply w_block | apply w_skip | apply w_exit | apply w_label)) | ((with_reducible first | apply wz (tok Try.prog) | apply wr_z (tok Try.prog)); exact zZ; decide) | ((with_reducible first | apply w_iff'); exact zV; exact zU) | fail
      all_goals try clear tE
      have hk1 : kk - 1 < kk := by omega
      have hk2 : kk - 1 + (i + 1) = 2 * f.l.length := by omega
      exact ⟨kk - 1, hk1, i + 1, hk2, hJ', by simp only [sp_cons, sp_nil, upd_b, Nat.reduceBEq, cond_true, cond_false, args0_zero, args0_succ, args0_nil, t0], by simp only [sp_cons, sp_nil, upd_b, Nat.reduceBEq, cond_true, cond_false, args0_zero, args0_succ, args0_nil, t1], by simp only [sp_cons, sp_nil, upd_b, Nat.reduceBEq, cond_true, cond_false, args0_zero, args0_succ, args0_nil, t7], by simp only [sp_cons, sp_nil, upd_b, Nat.reduceBEq, cond_true, cond_false, args0_zero, args0_succ, args0_nil, t8, hw], rfl⟩
    · have tE := And.intro (@upd_upd AV) <| And.intro (@upd_upd (Option Blk)) <| And.intro t0 <| And.intro t1 <| And.intro t7 <| And.intro t8 <| And.intro g1 <| And.intro ty3 <| And.intro ty4 <| And.intro ty5 <| And.intro ty24 <| And.intro ty26 <| And.intro ty34 <| And.intro ty35 <| And.intro ty37 <| Try.results86; repeat' first | ((with_reducible first | apply w_seq | apply w_region | apply wl_nil | apply wr_nil | apply wr_nilA | apply wr_nilE | apply go_normal | apply go_ret | apply go_exit | apply blk_normal | apply blk_ret | apply blk_here | apply w_block | apply w_skip | apply w_exit | apply w_label)) | ((with_reducible first | apply wz (tok Try.prog) | apply wr_z (tok Try.prog)); exact zZ; decide) | ((with_reducible first | apply w_ift'); exact zV; exact zU) | fail
      all_goals try clear tE
      refine w_ret ?_
      exact ⟨trivial, .tuple [], resv_of (xs := []) (tok Try.prog) rfl, rfl, .inr ⟨_, hS⟩⟩
  · obtain rfl : i = 2 * f.l.length := by omega
    have g1 : (((2 * f.l.length : Nat) : Int) < ((2 * f.l.length : Nat) : Int)) = False := by simp
    have tE := And.intro (@upd_upd AV) <| And.intro (@upd_upd (Option Blk)) <| And.intro t0 <| And.intro t1 <| And.intro t7 <| And.intro t8 <| And.intro g1 <| And.intro ty3 <| And.intro ty4 <| And.intro ty5 <| And.intro ty24 <| And.intro ty26 <| And.intro ty34 <| And.intro ty35 <| And.intro ty37 <| Try.results86; repeat' first | ((with_reducible first | apply w_seq | apply w_region | apply wl_nil | apply wr_nil | apply wr_nilA | apply wr_nilE | apply go_normal | apply go_ret | apply go_exit | apply blk_normal | apply blk_ret | apply blk_here | apply w_block | apply w_skip | apply w_exit | apply w_label)) | ((with_reducible first | apply wz (tok Try.prog) | apply wr_z (tok Try.prog)); exact zZ; decide) | ((with_reducible first | apply w_iff'); exact zV; exact zU) | fail
    all_goals try clear tE
    exact ⟨trivial, .tuple [], resv_of (xs := []) (tok Try.prog) rfl, rfl, .inl hJ⟩
/-- Where the clock stops: behind so many steps. -/
def stops (l : List Fr) (h i : Nat) : Bool := match l[cat h l.length i]? with
  | some x => !skip x && !(seen l h i x).rf
  | none => false
def firstStop (l : List Fr) (h : Nat) : Nat → Nat → Option Nat
  | 0, _ => none
  | k + 1, i => if stops l h i = true then some i else firstStop l h k (i + 1)
def vic (l : List Fr) (h : Nat) : Option Nat := firstStop l h (2 * l.length) 0
theorem past_go {l : List Fr} {h i : Nat} {x : Fr} (hp : Past l h i) (hx : l[cat h l.length i]? = some x) (hs : stops l h i = false) : Past l h (i + 1) := by
  simp only [stops, hx] at hs
  cases hk : skip x with
  | true => exact past_skip hp hx hk
  | false => rw [hk] at hs; exact past_rf hp hx hk (by simpa using hs)
theorem first_past {l : List Fr} {h : Nat} (hn : 0 < l.length) : ∀ {k i : Nat}, Past l h i → (∀ j, firstStop l h k i = some j → Past l h j ∧ stops l h j = true ∧ i ≤ j ∧ j < i + k) ∧ (firstStop l h k i = none → Past l h (i + k))
  | 0, i, hp => ⟨fun j hj => (by cases hj), fun _ => hp⟩
  | k + 1, i, hp => by
    obtain ⟨x, hx⟩ : ∃ x, l[cat h l.length i]? = some x := ⟨_, List.getElem?_eq_getElem (cat_lt hn)⟩
    by_cases hs : stops l h i = true
    · refine ⟨fun j hj => ?_, fun hj => ?_⟩
      · rw [firstStop, if_pos hs] at hj; cases hj; exact ⟨hp, hs, Nat.le_refl _, by omega⟩
      · rw [firstStop, if_pos hs] at hj; cases hj
    · have ih := first_past (k := k) hn (past_go hp hx (by simpa using hs))
      refine ⟨fun j hj => ?_, fun hj => ?_⟩
      · rw [firstStop, if_neg hs] at hj
        obtain ⟨h1, h2, h3, h4⟩ := ih.1 j hj
        exact ⟨h1, h2, by omega, by omega⟩
      · rw [firstStop, if_neg hs] at hj
        have := ih.2 hj
        rwa [show i + 1 + k = i + (k + 1) by omega] at this
theorem swept_at {l : List Fr} {h i : Nat} {x : Fr} (hx : l[cat h l.length i]? = some x) : (swept l h i)[cat h l.length i]? = some (seen l h i x) := swept_get hx
theorem seen_k (l : List Fr) (h i : Nat) (x : Fr) : (seen l h i x).k = x.k ∧ (seen l h i x).p = x.p ∧ (seen l h i x).d = x.d ∧ (seen l h i x).pins = x.pins ∧ (seen l h i x).dt = x.dt := by
  unfold seen
  split
  · exact ⟨rfl, rfl, rfl, rfl, rfl⟩
  · exact ⟨rfl, rfl, rfl, rfl, rfl⟩
theorem seen_skip' (l : List Fr) (h i : Nat) (x : Fr) : skip (seen l h i x) = skip x := by
  obtain ⟨h1, _, _, h4, _⟩ := seen_k l h i x
  simp only [skip, pinned, h1, h4]
/-- A frame's own cells behind the clock: its Ref is turned. -/
theorem oFlat_set4 {l : List Fr} {m : List (AV × AV)} {i : Nat} {u v : Fr} {ab : AV × AV} (h : l[i]? = some u) (h' : m[i]? = some ab) (hv : v = { u with rf := v.rf }) : (oRows l m).flatten.set (i * 6 + 4) (.bool v.rf) = (oRows (l.set i v) m).flatten := by
  rw [flat_set (oRows_row l m) _ (oRows_at h h') (by decide)]
  congr 1
  refine List.ext_getElem? fun j => ?_
  rw [List.getElem?_set, oRows, oRows, List.getElem?_zipWith, List.getElem?_zipWith, List.getElem?_set]
  by_cases e : i = j
  · subst e
    have h1 := (List.getElem?_eq_some_iff.1 h).1
    have h2 := (List.getElem?_eq_some_iff.1 h').1
    simp only [if_true, List.length_zipWith, h', h1, if_pos (show i < min l.length m.length by omega)]
    rw [hv]; rfl
  · simp only [if_neg e]
/-- What Victim's loop holds. -/
structure VcI (f : Fs) (h b k0 : Nat) (m : List (AV × AV)) (i : Nat) (at_ : Int) (lb : LoopB) (H : Heap) : Prop where
  h0 : H 0 = some (.cells [.slice b 0 f.l.length none 6, .int .i64 f.h] 26)
  h1 : H 1 = some (.cells [.int .i64 at_] 3)
  hb : H b = some (.cells (oRows (swept f.l h i) m).flatten 37)
  own : OwnABs H (fun j => 2 ≤ j ∧ j ≠ b ∧ j < k0) f.l m
  hk : H k0 = some .deferred
  hl : H (k0 + 1) = some (.loop lb)
theorem swept_pins {l : List Fr} {h i j : Nat} {x : Fr} (hx : l[j]? = some x) : ∃ y, (swept l h i)[j]? = some y ∧ y.d = x.d ∧ y.pins = x.pins := by
  refine ⟨_, swept_get hx, ?_⟩
  split
  · exact ⟨rfl, rfl⟩
  · exact ⟨rfl, rfl⟩
theorem unref_seen (l : List Fr) (h i : Nat) (x : Fr) : unref (seen l h i x) = unref x := by
  unfold seen
  split <;> rfl
/-- One round of Victim's loop: nothing is taken. -/
theorem vc_skip {f : Fs} {h b k0 : Nat} {m : List (AV × AV)} {i : Nat} {a : Int} {lb : LoopB} {H : Heap} {x : Fr} (hI : VcI f h b k0 m i a lb H) (hx : f.l[cat h f.l.length i]? = some x) (hs : skip x = true) : VcI f h b k0 m (i + 1) a lb H :=
  ⟨hI.h0, hI.h1, by rw [swept_skip hx hs]; exact hI.hb, hI.own, hI.hk, hI.hl⟩
theorem vc_rf {f : Fs} {h b k0 : Nat} {m : List (AV × AV)} {i : Nat} {a : Int} {lb : LoopB} {H : Heap} {x : Fr} {ab : AV × AV} (hI : VcI f h b k0 m i a lb H) (hx : f.l[cat h f.l.length i]? = some x) (hab : m[cat h f.l.length i]? = some ab) (hs : skip x = false) (hb2 : 2 ≤ b) (hbk : b < k0) :
    VcI f h b k0 m (i + 1) a lb (upd H b (some (.cells ((oRows (swept f.l h i) m).flatten.set (cat h f.l.length i * 6 + 4) (.bool false)) 37))) := by
  refine ⟨by rw [upd_ne _ _ (by omega)]; exact hI.h0, by rw [upd_ne _ _ (by omega)]; exact hI.h1, ?_, ⟨hI.own.1, fun j u v hu hv => ?_⟩, by rw [upd_ne _ _ (by omega)]; exact hI.hk, by rw [upd_ne _ _ (by omega)]; exact hI.hl⟩
  · have := oFlat_set4 (v := unref (seen f.l h i x)) (swept_at hx) hab rfl
    rw [upd_same, swept_rf hx hs, ← unref_seen f.l h i x, ← this]; rfl
  · have := hI.own.2 j u v hu hv
    exact this.mono (fun _ h => h) (fun id c hid hc => by rw [upd_ne _ _ (by omega)]; exact hc)
theorem vc_mv {f : Fs} {h b k0 : Nat} {m : List (AV × AV)} {i : Nat} {a : Int} {lb lb' : LoopB} {H H' : Heap} (hI : VcI f h b k0 m i a lb H) (hb2 : 2 ≤ b) (hbk : b < k0) (hs : ∀ id, id ≤ k0 → H' id = H id) (hl : H' (k0 + 1) = some (.loop lb')) : VcI f h b k0 m i a lb' H' :=
  ⟨by rw [hs 0 (by omega)]; exact hI.h0, by rw [hs 1 (by omega)]; exact hI.h1, by rw [hs b (by omega)]; exact hI.hb, ⟨hI.own.1, fun j u v hu hv => (hI.own.2 j u v hu hv).mono (fun _ h => h) (fun id c hid hc => by rw [hs id (by omega)]; exact hc)⟩, by rw [hs k0 (by omega)]; exact hI.hk, hl⟩
theorem vc_at {f : Fs} {h b k0 : Nat} {m : List (AV × AV)} {i : Nat} {a a' : Int} {lb : LoopB} {H : Heap} (hI : VcI f h b k0 m i a lb H) (hb2 : 2 ≤ b) (hbk : b < k0) : VcI f h b k0 m i a' lb (upd H 1 (some (.cells [.int .i64 a'] 3))) :=
  ⟨by rw [upd_ne _ _ (by omega)]; exact hI.h0, upd_same _ _ _, by rw [upd_ne _ _ (by omega)]; exact hI.hb, ⟨hI.own.1, fun j u v hu hv => (hI.own.2 j u v hu hv).mono (fun _ h => h) (fun id c hid hc => by rw [upd_ne _ _ (by omega)]; exact hc)⟩, by rw [upd_ne _ _ (by omega)]; exact hI.hk, by rw [upd_ne _ _ (by omega)]; exact hI.hl⟩
theorem ac12_some (c : Cf) (f : Fs) (hl : f.l.length ≤ 1000000) (hd : ∀ x, x ∈ f.l → x.d.length ≤ 1000000 ∧ x.pins.length ≤ 1000000) (hok : okF c f = true) : AC Try.prog 12 [.agg c.cells, .agg f.cells] (Lg.hl []) 0 (fun r H _ => ∃ x, r = .ret x ∧
    match vic f.l f.h.toNat with
    | none => x = .tuple [.agg [.empty, .int .i64 0], .int .i64 0, .int .i64 250]
    | some i => ∃ a, x = .tuple [.agg [a, .int .i64 (((cat f.h.toNat f.l.length i + 1) % f.l.length : Nat) : Int)], .int .i64 (cat f.h.toNat f.l.length i : Nat), .int .i64 0] ∧ OwnF H (fun _ => True) ⟨swept f.l f.h.toNat i, (((cat f.h.toNat f.l.length i + 1) % f.l.length : Nat) : Int)⟩ a) := by
  have hs : okS c f = true := by simp only [okF, Bool.and_eq_true] at hok; exact hok.1
  have ev : eF c f = 0 := by simp [eF, hok]
  simp only [okS, Bool.and_eq_true, decide_eq_true_eq] at hs
  obtain ⟨⟨⟨hg, hlen⟩, hh0⟩, hh1⟩ := hs
  obtain ⟨h, hh⟩ : ∃ h : Nat, f.h = h := ⟨f.h.toNat, by omega⟩
  have htn : f.h.toNat = h := by omega
  rw [htn]
  have hl0 : 0 < f.l.length := by omega
  have hhl : h < f.l.length := by omega
  have h11 := pf11 c f hl (fun x hx => (hd x hx).2)
  have hrp := round_pur f
  have hrp' : Pur (.func (.func 86) [] [.vptr [.view (frRows f.l), .int .i64 f.h]]) := hrp
  refine ac_of_wd Try.func12 (c := _) rfl (Nat.le_of_ble_eq_true rfl) ?_
  rw [show Try.f12.ntmps = 59 from rfl]
  have tE := And.intro (@upd_upd AV) <| And.intro (@upd_upd (Option Blk)) <| And.intro Cf.cells.eq_1 <| And.intro Fs.cells.eq_1 <| And.intro ev <| And.intro ty3 <| And.intro ty4 <| And.intro ty5 <| And.intro ty23 <| And.intro ty24 <| And.intro ty26 <| And.intro ty29 <| And.intro ty34 <| And.intro ty35 <| And.intro ty37 <| Try.results12; repeat' first | ((with_reducible first | apply w_seq | apply w_region | apply wl_nil | apply wr_nil | apply wr_nilA | apply wr_nilE | apply go_normal | apply go_ret | apply go_exit | apply blk_normal | apply blk_ret | apply blk_here | apply w_block | apply w_skip | apply w_exit | apply w_label)) | ((with_reducible first | apply wz (tok Try.prog) | apply wr_z (tok Try.prog)); exact zZ; decide) | ((with_reducible first | apply w_alloc (tok Try.prog)); exact zT; decide) | fail
  all_goals try clear tE
  refine w_scope' ?_
  have tE := And.intro (@upd_upd AV) <| And.intro (@upd_upd (Option Blk)) <| And.intro Cf.cells.eq_1 <| And.intro Fs.cells.eq_1 <| And.intro ev <| And.intro ty3 <| And.intro ty4 <| And.intro ty5 <| And.intro ty23 <| And.intro ty24 <| And.intro ty26 <| And.intro ty29 <| And.intro ty34 <| And.intro ty35 <| And.intro ty37 <| Try.results12; repeat' first | ((with_reducible first | apply w_seq | apply w_region | apply wl_nil | apply wr_nil | apply wr_nilA | apply wr_nilE | apply go_normal | apply go_ret | apply go_exit | apply blk_normal | apply blk_ret | apply blk_here | apply w_block | apply w_skip | apply w_exit | apply w_label)) | ((with_reducible first | apply wz (tok Try.prog) | apply wr_z (tok Try.prog)); exact zZ; decide) | ((with_reducible first | apply wcall' | apply wr_call); exact zV; exact zVs; exact zAs; (focus (with_unfolding_all first | exact h11)); decide) | ((with_reducible first | apply w_iff'); exact zV; exact zU) | fail
  all_goals try clear tE
  (have tE := And.intro (@upd_upd AV) <| And.intro (@upd_upd (Option Blk)) <| And.intro Cf.cells.eq_1 <| Fs.cells.eq_1; (with_reducible apply wacall); exact zV; exact zVs; exact zAs; exact cal36; (focus (with_unfolding_all exact ac36 f hl hd _ _)); decide; clear tE)
  rintro r H' k0 ⟨hn', hold, htop, a, rfl, hown⟩
  have hk0 : 2 ≤ k0 := hn'
  have e0 := hold 0 _ rfl
  have e1 := hold 1 _ rfl
  rcases hown with ⟨hz, _⟩ | ⟨_, b, m, hb2, rfl, hbH, hm⟩
  · rw [hz] at hl0; cases hl0
  have hbk : b < k0 := by
    rcases Nat.lt_or_ge b k0 with hx | hx
    · exact hx
    · rw [htop b hx] at hbH; cases hbH
  have hb2 : 2 ≤ b := hb2
  have tE := And.intro (@upd_upd AV) <| And.intro (@upd_upd (Option Blk)) <| And.intro Cf.cells.eq_1 <| And.intro Fs.cells.eq_1 <| And.intro e0 <| And.intro e1 <| And.intro ty3 <| And.intro ty4 <| And.intro ty5 <| And.intro ty23 <| And.intro ty24 <| And.intro ty26 <| And.intro ty29 <| And.intro ty34 <| And.intro ty35 <| And.intro ty37 <| Try.results12; repeat' first | ((with_reducible first | apply w_seq | apply w_region | apply wl_nil | apply wr_nil | apply wr_nilA | apply wr_nilE | apply go_normal | apply go_ret | apply go_exit | apply blk_normal | apply blk_ret | apply blk_here | apply w_block | apply w_skip | apply w_exit | apply w_label)) | ((with_reducible first | apply wz (tok Try.prog) | apply wr_z (tok Try.prog)); exact zZ; decide) | ((with_reducible first | apply w_store (tok Try.prog)); exact zV; exact zV; exact zS) | ((with_reducible first | apply wcall' | apply wr_call); exact zV; exact zVs; exact zAs; (focus (with_unfolding_all first | exact pf48 f)); decide) | fail
  all_goals try clear tE
  refine w_cutT [(4, .ptr 0 0), (5, .ptr 1 0), (6, .int .i64 0), (20, .func (.func 86) [] [.vptr f.cells])] ?_ ?_
  · (have tE := And.intro (@upd_upd AV) <| @upd_upd (Option Blk); simp only [fitsT, List.take_zero, List.length_nil, sp_cons, sp_nil, upd_b, Nat.reduceBEq, cond_true, cond_false, args0_zero, args0_succ, args0_nil, tE]; repeat' first | exact trivial | apply And.intro | exact Sub.refl _ | exact Sub.cap)
  refine w_rangeT (g := 86) (first := []) (cap := [.vptr f.cells]) (R := fun r H n => r = .ret (.tuple []) ∧ ∃ lb : LoopB, (vic f.l h = none ∧ lb.state = .ready ∧ lb.pending = none ∧ VcI f h b k0 m (2 * f.l.length) (-1) lb H) ∨ (∃ i, vic f.l h = some i ∧ lb.state = .done ∧ lb.pending = some (.exit 0) ∧ VcI f h b k0 m i (cat h f.l.length i : Nat) lb H)) rfl ⟨_, Try.func86, rfl, rfl⟩ ?_ ?_
  · intro lb hlb
    have hst : lb.state = .ready := by rw [hlb]
    have hpe : lb.pending = none := by rw [hlb]
    have hI0 : VcI f h b k0 m 0 (-1) lb (upd (upd (upd (upd H' 0 (some (.cells [.slice b 0 f.l.length none 6, .int .i64 f.h] 26))) 1 (some (.cells [.int .i64 (-1)] 3))) k0 (some .deferred)) (k0 + 1) (some (.loop lb))) := by
      refine ⟨by rw [upd_ne _ _ (by omega), upd_ne _ _ (by omega)]; rfl, by rw [upd_ne _ _ (by omega), upd_ne _ _ (by omega)]; rfl, ?_, ⟨hm.1, fun j u v hu hv => ?_⟩, by rw [upd_ne _ _ (by omega), upd_same], upd_same _ _ _⟩
      · rw [upd_ne _ _ (by omega), upd_ne _ _ (by omega), upd_ne _ _ (by omega), upd_ne _ _ (by omega), swept_zero]; exact hbH
      · have hmv : ∀ id c, (2 ≤ id ∧ id ≠ b) → H' id = some c → (2 ≤ id ∧ id ≠ b ∧ id < k0) ∧ (upd (upd (upd (upd H' 0 (some (.cells [.slice b 0 f.l.length none 6, .int .i64 f.h] 26))) 1 (some (.cells [.int .i64 (-1)] 3))) k0 (some .deferred)) (k0 + 1) (some (.loop lb))) id = some c := fun id c hid hc => by
          have hlt : id < k0 := by
            rcases Nat.lt_or_ge id k0 with hx | hx
            · exact hx
            · rw [htop id hx] at hc; cases hc
          refine ⟨⟨hid.1, hid.2, hlt⟩, ?_⟩
          rw [upd_ne _ _ (by omega), upd_ne _ _ (by omega), upd_ne _ _ (by omega), upd_ne _ _ (by omega)]; exact hc
        have := hm.2 j u v hu hv
        exact ⟨this.1.mv hmv, this.2.mv hmv⟩
    refine (ac86 f h hh hl0 hl hhl (k0 + 1) (k0 + 2) _ (fun i H n => firstStop f.l h (2 * f.l.length - i) i = vic f.l h ∧ VcI f h b k0 m i (-1) lb H) (fun i H n => vic f.l h = some i ∧ VcI f h b k0 m i (cat h f.l.length i : Nat) (lb.st .done (some (.exit 0))) H) ?_ ⟨rfl, hI0⟩).mono ?_
    · rintro i H n hi ⟨hfs, hI⟩
      obtain ⟨x, hx⟩ : ∃ x, f.l[cat h f.l.length i]? = some x := ⟨_, List.getElem?_eq_getElem (cat_lt hl0)⟩
      have hcl : cat h f.l.length i < f.l.length := cat_lt hl0
      obtain ⟨ab, hab⟩ : ∃ ab, m[cat h f.l.length i]? = some ab := ⟨_, List.getElem?_eq_getElem (by rw [hm.1]; exact hcl)⟩
      have hy := swept_at (h := h) (i := i) hx
      have hfs' : firstStop f.l h (2 * f.l.length - i) i = if stops f.l h i = true then some i else firstStop f.l h (2 * f.l.length - (i + 1)) (i + 1) := by
        rw [show 2 * f.l.length - i = 2 * f.l.length - (i + 1) + 1 by omega]; rfl
      have hsk : stops f.l h i = (!skip x && !(seen f.l h i x).rf) := by simp only [stops, hx]
      obtain ⟨s1, s2, s3, s4, s5⟩ := seen_k f.l h i x
      have s6 := seen_skip' f.l h i x
      generalize seen f.l h i x = y at hy hsk s1 s2 s3 s4 s5 s6
      have hpd := (hd x (List.mem_of_getElem? hx)).2
      rw [← s4] at hpd
      have hoab := hI.own.2 _ x ab hx hab
      have hl49 : ∀ (X : Option Blk) (n : Nat), AC Try.prog 49 [.agg (oRow y ab)] (upd H (k0 + 1) X) n (fun r h' n' => r = .ret (.bool (pinned y)) ∧ h' = upd H (k0 + 1) X ∧ n' = n) := fun X n => by
        refine PF.look (pf49 y hpd) (.bool _) _ _ (.cons (FzL.agg (.cons (.pur (.int _ _)) (.cons (.pur (.int _ _)) (.cons (Own.fz (S := fun _ => True) (H := upd H (k0 + 1) X) ?_) (.cons (Own.fz (S := fun _ => True) (H := upd H (k0 + 1) X) ?_) (.cons (.pur (.bool _)) (.cons (.pur (.bool _)) .nil))))))) .nil)
        · rw [s3]; exact hoab.1.mono (fun _ _ => trivial) (fun id c hid hc => by rw [upd_ne _ _ (by omega)]; exact hc)
        · rw [s4]; exact hoab.2.mono (fun _ _ => trivial) (fun id c hid hc => by rw [upd_ne _ _ (by omega)]; exact hc)
      refine yc_of_w (lb := lb) hI.hl hst (by rw [hlb]; rfl) (by rw [hlb]; intro t ht; have ht : t ∈ [21] := ht; rcases List.mem_singleton.1 ht with rfl; exact (show 21 < 59 by decide)) ?_
      subst hlb
      show W Try.prog Round 59 n _ _ ⟨upd (sp _) 21 (.int .i64 ((cat h f.l.length i : Nat) : Int)), H, n, []⟩
      have tE := And.intro (@upd_upd AV) <| And.intro (@upd_upd (Option Blk)) <| ty3; repeat' first | ((with_reducible first | apply w_seq | apply w_region | apply wl_nil | apply wr_nil | apply wr_nilA | apply wr_nilE | apply go_normal | apply go_ret | apply go_exit | apply blk_normal | apply blk_ret | apply blk_here | apply w_block | apply w_skip | apply w_exit | apply w_label)) | ((with_reducible first | apply wz (tok Try.prog) | apply wr_z (tok Try.prog)); exact zZ; decide) | fail
      all_goals try clear tE
      refine ⟨rfl, rfl, hI.hl, ?_⟩
      show W Try.prog Round 59 n _ _ _
      have q0 : ((0 : Nat) == k0 + 1) = false := by rw [beq_eq_false_iff_ne]; omega
      have q1 : ((1 : Nat) == k0 + 1) = false := by rw [beq_eq_false_iff_ne]; omega
      have qb : (b == k0 + 1) = false := by rw [beq_eq_false_iff_ne]; omega
      have e0 := hI.h0
      have e1 := hI.h1
      have eb := hI.hb
      have hfl := oFlat_len (l := swept f.l h i) (m := m) (by rw [swept_len]; exact hm.1)
      rw [swept_len] at hfl
      have g0 : (0 ≤ ((cat h f.l.length i : Nat) : Int)) = True := by simp
      have g1 : (((cat h f.l.length i : Nat) : Int) < (f.l.length : Int)) = True := by simp; exact hcl
      have hrow := flat_row (oRows_row _ _) (oRows_at hy hab)
      have w0 := drop_head (oFlat_at hy hab (j := 0) (by decide))
      have w4 := drop_head (oFlat_at hy hab (j := 4) (by decide))
      have w0 : ((oRows (swept f.l h i) m).flatten.drop (cat h f.l.length i * 6))[0]? = some (.int .u8 y.k) := w0
      have w4 : ((oRows (swept f.l h i) m).flatten.drop (cat h f.l.length i * 6 + 4))[0]? = some (.bool y.rf) := w4
      have b6 : (6 ≤ ((oRows (swept f.l h i) m).flatten.drop (cat h f.l.length i * 6)).length) = True := by rw [List.length_drop, hfl]; simp; omega
      have b4 : (cat h f.l.length i * 6 + 4 + 1 ≤ (oRows (swept f.l h i) m).flatten.length) = True := by rw [hfl]; simp; omega
      by_cases hk1 : y.k = 1
      · have c1 : (y.k == 1) = true := by simpa using hk1
        have hsx : skip x = true := by rw [← s6]; simp [skip, hk1]
        have tE := And.intro (@upd_upd AV) <| And.intro (@upd_upd (Option Blk)) <| And.intro q0 <| And.intro q1 <| And.intro qb <| And.intro e0 <| And.intro e1 <| And.intro eb <| And.intro g0 <| And.intro g1 <| And.intro hrow <| And.intro w0 <| And.intro w4 <| And.intro b6 <| And.intro b4 <| And.intro Nat.add_zero <| And.intro c1 <| And.intro ty3 <| And.intro ty4 <| And.intro ty5 <| And.intro ty23 <| And.intro ty24 <| And.intro ty26 <| And.intro ty29 <| And.intro ty34 <| And.intro ty35 <| And.intro ty37 <| Try.results12; repeat' first | ((with_reducible first | apply w_seq | apply w_region | apply wl_nil | apply wr_nil | apply wr_nilA | apply wr_nilE | apply go_normal | apply go_ret | apply go_exit | apply blk_normal | apply blk_ret | apply blk_here | apply w_block | apply w_skip | apply w_exit | apply w_label)) | ((with_reducible first | apply wz (tok Try.prog) | apply wr_z (tok Try.prog)); exact zZ; decide) | ((with_reducible first | apply wskip' | apply wr_skip); exact zU; exact zL; exact zU; decide) | ((with_reducible first | apply w_ift'); exact zV; exact zU) | fail
        all_goals try clear tE
        rw [hsk, hsx] at hfs'
        refine ⟨rfl, upd_same _ _ _, .inl ⟨rfl, by rw [← hfs]; exact hfs'.symm, ?_⟩⟩
        exact vc_mv (vc_skip hI hx hsx) hb2 hbk (fun id hid => by show upd (upd H (k0 + 1) _) (k0 + 1) _ id = _; rw [upd_ne _ _ (by omega), upd_ne _ _ (by omega)]) (upd_same _ _ _)
      · have c1 : (y.k == 1) = false := by simpa using hk1
        cases hpin : pinned y with
        | true =>
          have hsx : skip x = true := by rw [← s6]; simp [skip, hpin]
          have tE := And.intro (@upd_upd AV) <| And.intro (@upd_upd (Option Blk)) <| And.intro q0 <| And.intro q1 <| And.intro qb <| And.intro e0 <| And.intro e1 <| And.intro eb <| And.intro g0 <| And.intro g1 <| And.intro hrow <| And.intro w0 <| And.intro w4 <| And.intro b6 <| And.intro b4 <| And.intro Nat.add_zero <| And.intro c1 <| And.intro hpin <| And.intro ty3 <| And.intro ty4 <| And.intro ty5 <| And.intro ty23 <| And.intro ty24 <| And.intro ty26 <| And.intro ty29 <| And.intro ty34 <| And.intro ty35 <| And.intro ty37 <| Try.results12; repeat' first | ((with_reducible first | apply w_seq | apply w_region | apply wl_nil | apply wr_nil | apply wr_nilA | apply wr_nilE | apply go_normal | apply go_ret | apply go_exit | apply blk_normal | apply blk_ret | apply blk_here | apply w_block | apply w_skip | apply w_exit | apply w_label)) | ((with_reducible first | apply wz (tok Try.prog) | apply wr_z (tok Try.prog)); exact zZ; decide) | ((with_reducible first | apply wzg (tok Try.prog) | apply wr_zg (tok Try.prog)); exact zU; exact zL; exact zU; exact zZ; decide) | ((with_reducible first | apply wacallg'); exact zU; exact zL; exact zU; exact zV; exact zVs; exact zAs; (focus (first | exact ⟨_, Try.func49, rfl, rfl⟩)); (focus (with_unfolding_all first | exact hl49 _ _)); decide) | ((with_reducible first | apply w_ift'); exact zV; exact zU) | fail
          all_goals try clear tE
          rw [hsk, hsx] at hfs'
          refine ⟨rfl, upd_same _ _ _, .inl ⟨rfl, by rw [← hfs]; exact hfs'.symm, ?_⟩⟩
          exact vc_mv (vc_skip hI hx hsx) hb2 hbk (fun id hid => by show upd (upd H (k0 + 1) _) (k0 + 1) _ id = _; rw [upd_ne _ _ (by omega), upd_ne _ _ (by omega)]) (upd_same _ _ _)
        | false =>
          have hsx : skip x = false := by rw [← s6]; simp [skip, hpin, hk1]
          cases hrf : y.rf with
          | true =>
            rw [hrf] at w4
            have tE := And.intro (@upd_upd AV) <| And.intro (@upd_upd (Option Blk)) <| And.intro q0 <| And.intro q1 <| And.intro qb <| And.intro e0 <| And.intro e1 <| And.intro eb <| And.intro g0 <| And.intro g1 <| And.intro hrow <| And.intro w0 <| And.intro w4 <| And.intro b6 <| And.intro b4 <| And.intro Nat.add_zero <| And.intro c1 <| And.intro hpin <| And.intro set_len <| And.intro ty3 <| And.intro ty4 <| And.intro ty5 <| And.intro ty23 <| And.intro ty24 <| And.intro ty26 <| And.intro ty29 <| And.intro ty34 <| And.intro ty35 <| And.intro ty37 <| Try.results12; repeat' first | ((with_reducible first | apply w_seq | apply w_region | apply wl_nil | apply wr_nil | apply wr_nilA | apply wr_nilE | apply go_normal | apply go_ret | apply go_exit | apply blk_normal | apply blk_ret | apply blk_here | apply w_block | apply w_skip | apply w_exit | apply w_label)) | ((with_reducible first | apply wz (tok Try.prog) | apply wr_z (tok Try.prog)); exact zZ; decide) | ((with_reducible first | apply wzg (tok Try.prog) | apply wr_zg (tok Try.prog)); exact zU; exact zL; exact zU; exact zZ; decide) | ((with_reducible first | apply w_store (tok Try.prog)); exact zV; exact zV; exact zS) | ((with_reducible first | apply wacallg'); exact zU; exact zL; exact zU; exact zV; exact zVs; exact zAs; (focus (first | exact ⟨_, Try.func49, rfl, rfl⟩)); (focus (with_unfolding_all first | exact hl49 _ _)); decide) | ((with_reducible first | apply w_ift'); exact zV; exact zU) | ((with_reducible first | apply w_iff'); exact zV; exact zU) | fail
            all_goals try clear tE
            rw [hsk, hsx, hrf] at hfs'
            refine ⟨rfl, by show upd (upd H (k0 + 1) _) b _ (k0 + 1) = _; rw [upd_ne _ _ (by omega), upd_same], .inl ⟨rfl, by rw [← hfs]; exact hfs'.symm, ?_⟩⟩
            refine vc_mv (vc_rf hI hx hab hsx hb2 hbk) hb2 hbk (fun id hid => ?_) (upd_same _ _ _)
            show upd (upd (upd H (k0 + 1) _) b _) (k0 + 1) _ id = _
            rw [upd_ne _ _ (by omega)]
            by_cases e : id = b
            · subst e; rw [upd_same, upd_same]
            · rw [upd_ne _ _ e, upd_ne _ _ (by omega), upd_ne _ _ e]
          | false =>
            rw [hrf] at w4
            have tE := And.intro (@upd_upd AV) <| And.intro (@upd_upd (Option Blk)) <| And.intro q0 <| And.intro q1 <| And.intro qb <| And.intro e0 <| And.intro e1 <| And.intro eb <| And.intro g0 <| And.intro g1 <| And.intro hrow <| And.intro w0 <| And.intro w4 <| And.intro b6 <| And.intro b4 <| And.intro Nat.add_zero <| And.intro c1 <| And.intro hpin <| And.intro ty3 <| And.intro ty4 <| And.intro ty5 <| And.intro ty23 <| And.intro ty24 <| And.intro ty26 <| And.intro ty29 <| And.intro ty34 <| And.intro ty35 <| And.intro ty37 <| Try.results12; repeat' first | ((with_reducible first | apply w_seq | apply w_region | apply wl_nil | apply wr_nil | apply wr_nilA | apply wr_nilE | apply go_normal | apply go_ret | apply go_exit | apply blk_normal | apply blk_ret | apply blk_here | apply w_block | apply w_skip | apply w_exit | apply w_label)) | ((with_reducible first | apply blk_off); decide) | ((with_reducible first | apply wz (tok Try.prog) | apply wr_z (tok Try.prog)); exact zZ; decide) | ((with_reducible first | apply wzg (tok Try.prog) | apply wr_zg (tok Try.prog)); exact zU; exact zL; exact zU; exact zZ; decide) | ((with_reducible first | apply w_store (tok Try.prog)); exact zV; exact zV; exact zS) | ((with_reducible first | apply wacallg'); exact zU; exact zL; exact zU; exact zV; exact zVs; exact zAs; (focus (first | exact ⟨_, Try.func49, rfl, rfl⟩)); (focus (with_unfolding_all first | exact hl49 _ _)); decide) | ((with_reducible first | apply w_iff'); exact zV; exact zU) | fail
            all_goals try clear tE
            rw [hsk, hsx, hrf] at hfs'
            refine ⟨rfl, by show upd (upd H (k0 + 1) _) 1 _ (k0 + 1) = _; rw [upd_ne _ _ (by omega), upd_same], .inr ⟨rfl, by rw [← hfs]; exact hfs', ?_⟩⟩
            refine vc_mv (vc_at (a' := (cat h f.l.length i : Nat)) hI hb2 hbk) hb2 hbk (fun id hid => ?_) (upd_same _ _ _)
            show upd (upd (upd H (k0 + 1) _) 1 _) (k0 + 1) _ id = _
            rw [upd_ne _ _ (by omega)]
            by_cases e : id = 1
            · subst e; rw [upd_same, upd_same]
            · rw [upd_ne _ _ e, upd_ne _ _ (by omega), upd_ne _ _ e]
    · rintro r H n ⟨rfl, ⟨hfs, hI⟩ | ⟨i, hv, hI⟩⟩
      · refine ⟨rfl, lb, .inl ⟨?_, hst, hpe, hI⟩⟩
        rw [Nat.sub_self] at hfs; exact hfs.symm
      · exact ⟨rfl, _, .inr ⟨i, hv, rfl, rfl, hI⟩⟩
  · rintro r H n ⟨rfl, lb, ⟨hv, hst, hpe, hI⟩ | ⟨i, hv, hst, hpe, hI⟩⟩
    · refine ⟨_, lb, rfl, hI.hl, by rw [hst]; decide, ?_⟩
      rw [hpe]
      have q0 : ((0 : Nat) == k0 + 1) = false := by rw [beq_eq_false_iff_ne]; omega
      have q1 : ((1 : Nat) == k0 + 1) = false := by rw [beq_eq_false_iff_ne]; omega
      have p0 : ((0 : Nat) == k0) = false := by rw [beq_eq_false_iff_ne]; omega
      have p1 : ((1 : Nat) == k0) = false := by rw [beq_eq_false_iff_ne]; omega
      have e0 := hI.h0
      have e1 := hI.h1
      have lt0 : ((-1 : Int) < 0) = True := by simp
      have tE := And.intro (@upd_upd AV) <| And.intro (@upd_upd (Option Blk)) <| And.intro q0 <| And.intro q1 <| And.intro p0 <| And.intro p1 <| And.intro e0 <| And.intro e1 <| And.intro lt0 <| And.intro ty3 <| And.intro ty4 <| And.intro ty5 <| And.intro ty23 <| And.intro ty24 <| And.intro ty26 <| And.intro ty29 <| And.intro ty34 <| And.intro ty35 <| And.intro ty37 <| Try.results12; repeat' first | ((with_reducible first | apply w_seq | apply w_region | apply wl_nil | apply wr_nil | apply wr_nilA | apply wr_nilE | apply go_normal | apply go_ret | apply go_exit | apply blk_normal | apply blk_ret | apply blk_here | apply w_block | apply w_skip | apply w_exit | apply w_label)) | ((with_reducible first | apply wz (tok Try.prog) | apply wr_z (tok Try.prog)); exact zZ; decide) | ((with_reducible first | apply w_store (tok Try.prog)); exact zV; exact zV; exact zS) | ((with_reducible first | apply w_ift'); exact zV; exact zU) | fail
      all_goals try clear tE
      refine w_ret ?_
      repeat refine go_ret ?_
      refine noGoto_ret ?_
      refine doneDA_ret (xs := [.agg [.empty, .int .i64 0], .int .i64 0, .int .i64 250]) (tok Try.prog) Try.results12 ⟨?_, trivial⟩ ?_ ?_
      · show upd (upd (upd H (k0 + 1) none) 0 _) 1 _ k0 = _
        rw [upd_ne _ _ (by omega), upd_ne _ _ (by omega), upd_ne _ _ (by omega)]; exact hI.hk
      · simp only [resA, resOne, killAll, pv, pvx, pvIndexAddr, pvIndex, pvOwn, evp, List.replicate_succ, List.replicate_zero, List.flatten_cons, List.flatten_nil, List.append_nil, List.cons_append, List.nil_append, buildA, placesA, fillA, wr, known, cellsA, List.set_cons_zero, List.set_cons_succ, and_self, Nat.reduceSub, List.length_set, and_true, List.all_cons, List.all_nil, scalA, Bool.and_true, Bool.and_self, evo, evs, cval, Option.bind_some, Option.map_some, binv, intop, pvPick, pvUn, pvConv, pvExtract, fieldOf, pvField, pvFieldAddr, pvLoad, pvNil, loadA, partA, isAggD, pvIface, isIface, pvLen, lenA, pvCall, noYieldB, List.drop_succ_cons, List.drop_zero, List.take_succ_cons, List.take_zero, List.getElem?_cons_succ, List.getElem?_cons_zero, List.getElem?_toArray, List.length_cons, List.length_nil, Bool.false_eq_true, Nat.reduceAdd, Nat.reduceLeDiff, Nat.zero_add, Nat.reduceEqDiff, Nat.one_ne_zero, Int.reduceEq, Int.reduceLT, Int.reduceLE, Int.reduceToNat, Nat.reduceMul, Nat.reduceLT, hl_zero, hl_succ, hl_nil, sp_cons, sp_nil, upd_b, Nat.reduceBEq, cond_true, cond_false, args0_zero, args0_succ, args0_nil, ↓reduceIte, ty3, ty26, p0, p1]; rfl
      · rw [hv]; exact ⟨_, rfl, rfl⟩
    · refine ⟨_, lb, rfl, hI.hl, by rw [hst]; decide, ?_⟩
      rw [hpe]
      have q0 : ((0 : Nat) == k0 + 1) = false := by rw [beq_eq_false_iff_ne]; omega
      have q1 : ((1 : Nat) == k0 + 1) = false := by rw [beq_eq_false_iff_ne]; omega
      have p0 : ((0 : Nat) == k0) = false := by rw [beq_eq_false_iff_ne]; omega
      have p1 : ((1 : Nat) == k0) = false := by rw [beq_eq_false_iff_ne]; omega
      have e0 := hI.h0
      have e1 := hI.h1
      have lt0 : (((cat h f.l.length i : Nat) : Int) < 0) = False := eq_false (by omega)
      have hcl : cat h f.l.length i < f.l.length := cat_lt hl0
      have hw : IntKind.i64.wrap (((cat h f.l.length i : Nat) : Int) + 1) = ((cat h f.l.length i + 1 : Nat) : Int) := by rw [wrap64 (by omega) (by omega)]; rfl
      have hne : ((f.l.length : Int) = 0) = False := eq_false (by omega)
      have hrem : Int.tmod ((cat h f.l.length i + 1 : Nat) : Int) (f.l.length : Int) = (((cat h f.l.length i + 1) % f.l.length : Nat) : Int) := rfl
      have tE := And.intro (@upd_upd AV) <| And.intro (@upd_upd (Option Blk)) <| And.intro q0 <| And.intro q1 <| And.intro p0 <| And.intro p1 <| And.intro e0 <| And.intro e1 <| And.intro lt0 <| And.intro hw <| And.intro hne <| And.intro hrem <| And.intro ty3 <| And.intro ty4 <| And.intro ty5 <| And.intro ty23 <| And.intro ty24 <| And.intro ty26 <| And.intro ty29 <| And.intro ty34 <| And.intro ty35 <| And.intro ty37 <| Try.results12; repeat' first | ((with_reducible first | apply w_seq | apply w_region | apply wl_nil | apply wr_nil | apply wr_nilA | apply wr_nilE | apply go_normal | apply go_ret | apply go_exit | apply blk_normal | apply blk_ret | apply blk_here | apply w_block | apply w_skip | apply w_exit | apply w_label)) | ((with_reducible first | apply wz (tok Try.prog) | apply wr_z (tok Try.prog)); exact zZ; decide) | ((with_reducible first | apply w_store (tok Try.prog)); exact zV; exact zV; exact zS) | ((with_reducible first | apply w_iff'); exact zV; exact zU) | ((with_reducible first | apply fm_nil | apply fm_cons)) | ((with_reducible apply m_next); exact zU) | ((with_reducible first | apply m_v (tok Try.prog)); exact zU; exact zZ; decide) | ((with_reducible first | apply m_x (tok Try.prog)); exact zU; (focus (decide +kernel)); exact zZ; decide) | ((with_reducible first | apply m_xo (tok Try.prog)); exact zU; exact zZ; decide) | ((with_reducible apply m_nilO); exact zU; (focus (simp only [List.reverse_cons, List.reverse_nil, List.nil_append, List.cons_append]; rfl)); (focus (simp only [OwedAll, Owed, Nat.reduceAdd]; (repeat' apply And.intro); all_goals first | exact trivial | (intro h; exact absurd h (by decide +kernel)) | (intro _; exact zW)))) | ((with_reducible first | apply m_chg0); exact zU; (focus ((with_reducible apply c_store (tok Try.prog)); exact zV; exact zV; exact zS))) | ((with_reducible apply w_drawN (id := 15) [2, 3] [([2, 3], [0, 2, 1, 3, 4])] mixed); (focus (decide +kernel))) | fail
      all_goals try clear tE
      refine w_ret ?_
      repeat refine go_ret ?_
      refine noGoto_ret ?_
      have key : ∀ H1 : Heap, (∀ id c, id ≠ 0 → id ≠ 1 → id < k0 → H id = some c → H1 id = some c) → OwnF H1 (fun _ => True) ⟨swept f.l h i, (((cat h f.l.length i + 1) % f.l.length : Nat) : Int)⟩ (.slice b 0 f.l.length none 6) := fun H1 hH1 => by
        refine .inr ⟨by rw [swept_len]; exact hl0, b, m, trivial, by rw [swept_len], hH1 b _ (by omega) (by omega) hbk hI.hb, by rw [swept_len]; exact hI.own.1, fun j u v hu hv => ?_⟩
        have hjl : j < f.l.length := by have := (List.getElem?_eq_some_iff.1 hu).1; rwa [swept_len] at this
        obtain ⟨z, hz, z1, z2⟩ := swept_pins (h := h) (i := i) (List.getElem?_eq_getElem hjl)
        rw [hu] at hz; cases hz
        have ho := hI.own.2 j _ v (List.getElem?_eq_getElem hjl) hv
        have hmv : ∀ id c, (2 ≤ id ∧ id ≠ b ∧ id < k0) → H id = some c → (True ∧ id ≠ b) ∧ H1 id = some c := fun id c hid hc => ⟨⟨trivial, hid.2.1⟩, hH1 id c (by omega) (by omega) hid.2.2 hc⟩
        exact ⟨by rw [z1]; exact ho.1.mv hmv, by rw [z2]; exact ho.2.mv hmv⟩
      refine doneDA_ret (xs := [.agg [.slice b 0 f.l.length none 6, .int .i64 (((cat h f.l.length i + 1) % f.l.length : Nat) : Int)], .int .i64 ((cat h f.l.length i : Nat) : Int), .int .i64 0]) (tok Try.prog) Try.results12 ⟨?_, trivial⟩ ?_ ?_
      · simp only [sp_cons, sp_nil, upd_b, Nat.reduceBEq, cond_true, cond_false, args0_zero, args0_succ, args0_nil, p0, p1, q0, q1, show (k0 == 0) = false from by rw [beq_eq_false_iff_ne]; omega, show (k0 == 1) = false from by rw [beq_eq_false_iff_ne]; omega, show (k0 == k0 + 1) = false from by rw [beq_eq_false_iff_ne]; omega, hI.hk]
      · simp only [resA, resOne, killAll, pv, pvx, pvIndexAddr, pvIndex, pvOwn, evp, List.replicate_succ, List.replicate_zero, List.flatten_cons, List.flatten_nil, List.append_nil, List.cons_append, List.nil_append, buildA, placesA, fillA, wr, known, cellsA, List.set_cons_zero, List.set_cons_succ, and_self, Nat.reduceSub, List.length_set, and_true, List.all_cons, List.all_nil, scalA, Bool.and_true, Bool.and_self, evo, evs, cval, Option.bind_some, Option.map_some, binv, intop, pvPick, pvUn, pvConv, pvExtract, fieldOf, pvField, pvFieldAddr, pvLoad, pvNil, loadA, partA, isAggD, pvIface, isIface, pvLen, lenA, pvCall, noYieldB, List.drop_succ_cons, List.drop_zero, List.take_succ_cons, List.take_zero, List.getElem?_cons_succ, List.getElem?_cons_zero, List.getElem?_toArray, List.length_cons, List.length_nil, Bool.false_eq_true, Nat.reduceAdd, Nat.reduceLeDiff, Nat.zero_add, Nat.reduceEqDiff, Nat.one_ne_zero, Int.reduceEq, Int.reduceLT, Int.reduceLE, Int.reduceToNat, Nat.reduceMul, Nat.reduceLT, hl_zero, hl_succ, hl_nil, sp_cons, sp_nil, upd_b, Nat.reduceBEq, cond_true, cond_false, args0_zero, args0_succ, args0_nil, ↓reduceIte, ty3, ty26, p0, p1, q0, q1, e0, e1]
      · rw [hv]
        refine ⟨_, rfl, _, rfl, key _ (fun id c h0 h1 hk hc => ?_)⟩
        simp only [killAll]
        rw [upd_ne _ _ (by omega)]
        repeat rw [upd_ne _ _ (by omega)]
        exact hc
/-- What Victim answers. -/
def vicF (c : Cf) (f : Fs) : Fs := if okF c f = true then (match vic f.l f.h.toNat with
  | none => ⟨[], 0⟩
  | some i => ⟨swept f.l f.h.toNat i, (((cat f.h.toNat f.l.length i + 1) % f.l.length : Nat) : Int)⟩) else ⟨[], 0⟩
def vicA (c : Cf) (f : Fs) : Int := if okF c f = true then (match vic f.l f.h.toNat with
  | none => 0
  | some i => ((cat f.h.toNat f.l.length i : Nat) : Int)) else 0
def vicE (c : Cf) (f : Fs) : Int := if okF c f = true then (match vic f.l f.h.toNat with
  | none => 250
  | some i => 0) else 8
theorem cal12 : Callable Try.prog 12 := ⟨_, Try.func12, rfl, rfl⟩
theorem ac12_bad (c : Cf) (f : Fs) (hl : f.l.length ≤ 1000000) (hd : ∀ x, x ∈ f.l → x.d.length ≤ 1000000 ∧ x.pins.length ≤ 1000000) (hok : okF c f = false) : AC Try.prog 12 [.agg c.cells, .agg f.cells] (Lg.hl []) 0 (fun r H _ => r = .ret (.tuple [.agg [.empty, .int .i64 0], .int .i64 0, .int .i64 8])) := by
  have ev : eF c f = 8 := by simp [eF, hok]
  have h11 := pf11 c f hl (fun x hx => (hd x hx).2)
  refine ac_of_wd Try.func12 (c := _) rfl (Nat.le_of_ble_eq_true rfl) ?_
  rw [show Try.f12.ntmps = 59 from rfl]
  have tE := And.intro (@upd_upd AV) <| And.intro (@upd_upd (Option Blk)) <| And.intro Cf.cells.eq_1 <| And.intro Fs.cells.eq_1 <| And.intro ev <| And.intro ty3 <| And.intro ty4 <| And.intro ty5 <| And.intro ty23 <| And.intro ty24 <| And.intro ty26 <| And.intro ty29 <| And.intro ty34 <| And.intro ty35 <| And.intro ty37 <| Try.results12; repeat' first | ((with_reducible first | apply w_seq | apply w_region | apply wl_nil | apply wr_nil | apply wr_nilA | apply wr_nilE | apply go_normal | apply go_ret | apply go_exit | apply blk_normal | apply blk_ret | apply blk_here | apply w_block | apply w_skip | apply w_exit | apply w_label)) | ((with_reducible first | apply wz (tok Try.prog) | apply wr_z (tok Try.prog)); exact zZ; decide) | ((with_reducible first | apply w_alloc (tok Try.prog)); exact zT; decide) | fail
  all_goals try clear tE
  refine w_scope' ?_
  have tE := And.intro (@upd_upd AV) <| And.intro (@upd_upd (Option Blk)) <| And.intro Cf.cells.eq_1 <| And.intro Fs.cells.eq_1 <| And.intro ev <| And.intro ty3 <| And.intro ty4 <| And.intro ty5 <| And.intro ty23 <| And.intro ty24 <| And.intro ty26 <| And.intro ty29 <| And.intro ty34 <| And.intro ty35 <| And.intro ty37 <| Try.results12; repeat' first | ((with_reducible first | apply w_seq | apply w_region | apply wl_nil | apply wr_nil | apply wr_nilA | apply wr_nilE | apply go_normal | apply go_ret | apply go_exit | apply blk_normal | apply blk_ret | apply blk_here | apply w_block | apply w_skip | apply w_exit | apply w_label)) | ((with_reducible first | apply wz (tok Try.prog) | apply wr_z (tok Try.prog)); exact zZ; decide) | ((with_reducible first | apply w_store (tok Try.prog)); exact zV; exact zV; exact zS) | ((with_reducible first | apply wcall' | apply wr_call); exact zV; exact zVs; exact zAs; (focus (with_unfolding_all first | exact h11)); decide) | ((with_reducible first | apply w_ift'); exact zV; exact zU) | fail
  all_goals try clear tE
  refine w_ret ?_
  repeat refine go_ret ?_
  refine noGoto_ret ?_
  refine doneDA_ret (xs := [.agg [.empty, .int .i64 0], .int .i64 0, .int .i64 8]) (tok Try.prog) Try.results12 trivial ?_ rfl
  simp only [resA, resOne, killAll, pv, pvx, pvIndexAddr, pvIndex, pvOwn, evp, List.replicate_succ, List.replicate_zero, List.flatten_cons, List.flatten_nil, List.append_nil, List.cons_append, List.nil_append, buildA, placesA, fillA, wr, known, cellsA, List.set_cons_zero, List.set_cons_succ, and_self, Nat.reduceSub, List.length_set, and_true, List.all_cons, List.all_nil, scalA, Bool.and_true, Bool.and_self, evo, evs, cval, Option.bind_some, Option.map_some, binv, intop, pvPick, pvUn, pvConv, pvExtract, fieldOf, pvField, pvFieldAddr, pvLoad, pvNil, loadA, partA, isAggD, pvIface, isIface, pvLen, lenA, pvCall, noYieldB, List.drop_succ_cons, List.drop_zero, List.take_succ_cons, List.take_zero, List.getElem?_cons_succ, List.getElem?_cons_zero, List.getElem?_toArray, List.length_cons, List.length_nil, Bool.false_eq_true, Nat.reduceAdd, Nat.reduceLeDiff, Nat.zero_add, Nat.reduceEqDiff, Nat.one_ne_zero, Int.reduceEq, Int.reduceLT, Int.reduceLE, Int.reduceToNat, Nat.reduceMul, Nat.reduceLT, hl_zero, hl_succ, hl_nil, sp_cons, sp_nil, upd_b, Nat.reduceBEq, cond_true, cond_false, args0_zero, args0_succ, args0_nil, ↓reduceIte, ty3, ty26]; rfl
theorem nf12 (c : Cf) (f : Fs) (hl : f.l.length ≤ 1000000) (hd : ∀ x, x ∈ f.l → x.d.length ≤ 1000000 ∧ x.pins.length ≤ 1000000) : NF Try.prog 12 [.agg c.cells, .agg f.cells] (fun r => r = .tuple [.agg (vicF c f).cells, .int .i64 (vicA c f), .int .i64 (vicE c f)]) := by
  have hz : ∀ (H : Heap) (e : Int), Own H (fun _ => True) (.tuple [.agg [.empty, .int .i64 0], .int .i64 0, .int .i64 e]) (.tuple [.agg (Fs.cells ⟨[], 0⟩), .int .i64 0, .int .i64 e]) := fun H e =>
    OwnL.tuple (.cons (OwnL.agg (.cons .nothing (.cons (.int _ _) .nil))) (.cons (.int _ _) (.cons (.int _ _) .nil)))
  cases hok : okF c f with
  | false =>
    refine nf_of_0 cal12 (args_2 (cf_pur c) (fsa_pur f)) ((ac12_bad c f hl hd hok).mono ?_)
    rintro r H n rfl
    exact ⟨_, _, rfl, hz H 8, by simp [vicF, vicA, vicE, hok]⟩
  | true =>
    refine nf_of_0 cal12 (args_2 (cf_pur c) (fsa_pur f)) ((ac12_some c f hl hd hok).mono ?_)
    rintro r H n ⟨x, rfl, hx⟩
    cases hv : vic f.l f.h.toNat with
    | none =>
      rw [hv] at hx
      subst hx
      exact ⟨_, _, rfl, hz H 250, by simp [vicF, vicA, vicE, hok, hv]⟩
    | some i =>
      rw [hv] at hx
      obtain ⟨a, rfl, ho⟩ := hx
      exact ⟨_, _, rfl, OwnL.tuple (.cons ho.own (.cons (.int _ _) (.cons (.int _ _) .nil))), by simp [vicF, vicA, vicE, hok, hv]⟩
end Go.Proofs.Ytlmighkbeacjnaa
