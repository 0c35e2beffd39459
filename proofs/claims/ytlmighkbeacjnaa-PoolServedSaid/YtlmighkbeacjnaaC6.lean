/- The range function over a configuration's levels. -/
import Derived.Test.YtlmighkbeacjnaaLm3
import Derived.Test.YtlmighkbeacjnaaC5
open Go Go.Lg
set_option linter.unusedSimpArgs false
set_option maxHeartbeats 2000000
namespace Go.Proofs.Ytlmighkbeacjnaa
theorem pf98 (c : Cf) : PF Try.prog 98 [.agg c.cells] (fun r => r = .func (.func 106) [] [.vptr c.cells]) := by
  refine pf_of_w0 Try.func98 (c := _) rfl rfl (Nat.le_of_ble_eq_true rfl) (by simp only [Cf.cells, pur_bool, pur_int, pur_str, pur_empty, pur_nilptr, pur_nilFunc, pur_nilIface, pur_any, pur_agg, pur_tuple, pur_vptr, pur_view, pur_iface, pur_func, tup, List.mem_cons, forall_eq_or_imp, List.not_mem_nil, false_implies, implies_true, and_self, forall_const, forall_eq]) ?_
  rw [show Try.f98.ntmps = 4 from rfl]
  have tE := And.intro (@upd_upd AV) <| And.intro (@upd_upd (Option Blk)) <| And.intro Cf.cells.eq_1 <| And.intro ty23 <| Try.results98; repeat' first | ((with_reducible first | apply w_seq | apply w_region | apply wl_nil | apply wr_nil | apply wr_nilA | apply wr_nilE | apply go_normal | apply go_ret | apply go_exit | apply blk_normal | apply blk_ret | apply blk_here | apply w_block | apply w_skip | apply w_exit | apply w_label)) | ((with_reducible first | apply wz (tok Try.prog) | apply wr_z (tok Try.prog)); exact zZ; decide) | ((with_reducible apply w_ret); (repeat (with_reducible first | apply go_ret | apply blk_ret)); (with_reducible apply done_ret (tok Try.prog)); exact zT; exact zD; exact zX) | fail
  all_goals try clear tE
  rfl
theorem levsF_len (s f t : Int) : ∀ (k : Nat) (n m : Int), (levsF s f t k n m).length ≤ k
  | 0, _, _ => Nat.le_refl _
  | k + 1, n, m => by
    have := levsF_len s f t k ((n + f - 1).tdiv f) (4 * f)
    unfold levsF
    split
    · simp
    · simp only [List.length_cons]; omega
theorem ac106 (c : Cf) (hc : c.ok = true) (id k : Nat) (H0 : Heap) (J : List Lev → Heap → Nat → Prop) (hJ : ∀ l H n n', J l H n → n ≤ n' → J l H n')
    (hround : ∀ pre x H n, (∃ rest, c.levs = pre ++ x :: rest) → J pre H n → YC Try.prog id [.agg (Lev.cells x)] H n (fun b H' n' => b = true ∧ n ≤ n' ∧ J (pre ++ [x]) H' n'))
    (h0 : J [] H0 k) (hfr : H0 k = none) : AC Try.prog 106 [.yieldf id, .vptr c.cells] H0 k (fun r H n => r = .ret (.tuple []) ∧ ∃ H', J c.levs H' n ∧ H' k = none ∧ ∀ i, i ≠ k → H i = H' i) := by
  have hb : (1 ≤ c.p ∧ c.p ≤ 64) ∧ (1 ≤ c.z ∧ c.z ≤ 32) ∧ (2 ≤ c.f ∧ c.f ≤ 8) ∧ (1 ≤ c.s ∧ c.s ≤ 4) ∧ (1 ≤ c.t ∧ c.t ≤ 16) := by
    simp [Cf.ok, Cf.spans, inB] at hc; omega
  obtain ⟨hp, hz, hf, hs', ht⟩ := hb
  have ehc : Cf.cells c = [.int .i64 c.p, .int .i64 c.z, .int .i64 c.f, .int .i64 c.s, .int .i64 c.st, .int .i64 c.fr, .int .i64 c.cl, .int .i64 c.q, .int .i64 c.t] := rfl
  refine ac_of_wd Try.func106 (c := _) rfl (Nat.le_of_ble_eq_true rfl) ?_
  rw [show Try.f106.ntmps = 34 from rfl]
  have tE := And.intro (@upd_upd AV) <| And.intro (@upd_upd (Option Blk)) <| And.intro Cf.cells.eq_1 <| And.intro ty3 <| And.intro ty4 <| And.intro ty23 <| ty124; repeat' first | ((with_reducible first | apply w_seq | apply w_region | apply wl_nil | apply wr_nil | apply wr_nilA | apply wr_nilE | apply go_normal | apply go_ret | apply go_exit | apply blk_normal | apply blk_ret | apply blk_here | apply w_block | apply w_skip | apply w_exit | apply w_label)) | ((with_reducible first | apply wz (tok Try.prog) | apply wr_z (tok Try.prog)); exact zZ; decide) | ((with_reducible first | apply w_alloc (tok Try.prog)); exact zT; decide) | ((with_reducible first | apply w_store (tok Try.prog)); exact zV; exact zV; exact zS) | ((with_reducible first | apply wcall' | apply wr_call); exact zV; exact zVs; exact zAs; (focus (with_unfolding_all first | exact pf107 c _ _)); decide) | fail
  all_goals try clear tE
  refine w_loop (fun kk σ => ∃ pre n m h, c.levs = pre ++ levsF c.s c.f c.t kk n m ∧ 2 ≤ kk ∧ kk ≤ 8 ∧ 1 ≤ n ∧ n ≤ p2 (kk - 2) ∧ J pre h σ.n ∧ h k = none ∧ σ.tm 0 = .yieldf id ∧ σ.tm 1 = .vptr c.cells ∧ σ.tm 3 = .ptr k 0 ∧ σ.h = upd h k (some (.cells (levOf c.s n m).cells 124)) ∧ σ.df = []) 8 ⟨[], c.p, c.z, H0, rfl, by decide, by decide, hp.1, hp.2, hJ _ _ _ _ h0 (Nat.le_succ _), hfr, rfl, rfl, rfl, ?_, rfl⟩ ?_
  · rfl
  · rintro kk ⟨tm, H, nn, df⟩ ⟨pre, n, m, h, hl', hk, hk8, hn, hnk, hJh, hhk, t0, t1, t3, rfl, rfl⟩
    simp only at t0 t1 t3 hJh
    have hn64 : n ≤ 64 := by
      have hcc : kk = 2 ∨ kk = 3 ∨ kk = 4 ∨ kk = 5 ∨ kk = 6 ∨ kk = 7 ∨ kk = 8 := by omega
      rcases hcc with rfl | rfl | rfl | rfl | rfl | rfl | rfl <;> simp [p2] at hnk <;> omega
    obtain ⟨d1, d2⟩ := div_bound hn hn64 hf
    have e1 : IntKind.i64.wrap (n + c.f) = n + c.f := wrap64 (by omega) (by omega)
    have e2 : IntKind.i64.wrap (n + c.f - 1) = n + c.f - 1 := wrap64 (by omega) (by omega)
    have e3 : IntKind.i64.wrap ((n + c.f - 1).tdiv c.f) = (n + c.f - 1).tdiv c.f := wrap64 (by omega) (by omega)
    have e4 : IntKind.i64.wrap (4 * c.f) = 4 * c.f := wrap64 (by omega) (by omega)
    have e5 : (c.f = 0) = False := by simp; omega
    obtain ⟨kk, rfl⟩ : ∃ j, kk = j + 1 := ⟨kk - 1, by omega⟩
    have hlev : levsF c.s c.f c.t (kk + 1) n m = levOf c.s n m :: (if n ≤ c.t then [] else levsF c.s c.f c.t kk ((n + c.f - 1).tdiv c.f) (4 * c.f)) := rfl
    have hnext : ¬ n ≤ c.t → 2 ≤ kk ∧ (n + c.f - 1).tdiv c.f ≤ p2 (kk - 2) := fun h => by
      obtain ⟨j, rfl⟩ : ∃ j, kk = j + 2 := by
        have : kk ≠ 1 := by rintro rfl; simp [p2] at hnk; omega
        exact ⟨kk - 2, by omega⟩
      have e : p2 (j + 2 + 1 - 2) = 2 * p2 j := rfl
      rw [e] at hnk
      exact ⟨by omega, by show _ ≤ p2 j; omega⟩
    have hcl : (levOf c.s n m).cells = [.int .i64 n, .int .i64 m, .int .i64 (hi n), .int .i64 (W64 (W64 (c.s * W64 (8 + m)) + 64))] := rfl
    rw [hcl]
    have tE := And.intro (@upd_upd AV) <| And.intro (@upd_upd (Option Blk)) <| And.intro Cf.cells.eq_1 <| And.intro ty3 <| And.intro ty4 <| And.intro ty23 <| And.intro ty124 <| And.intro t0 <| And.intro t1 <| And.intro t3 <| And.intro e1 <| And.intro e2 <| And.intro e3 <| And.intro e4 <| e5; repeat' first | ((with_reducible first | apply w_seq | apply w_region | apply wl_nil | apply wr_nil | apply wr_nilA | apply wr_nilE | apply go_normal | apply go_ret | apply go_exit | apply blk_normal | apply blk_ret | apply blk_here | apply w_block | apply w_skip | apply w_exit | apply w_label)) | ((with_reducible first | apply wz (tok Try.prog) | apply wr_z (tok Try.prog)); exact zZ; decide) | fail
    all_goals try clear tE
    have hy := fun b0 => yc_beside (bl := b0) hhk (hround pre (levOf c.s n m) h nn ⟨_, by rw [hl', hlev]⟩ hJh)
    rw [hcl] at hy
    refine wl_yield (by simp only [evo, t0, sp_cons, sp_nil, upd_b, Nat.reduceBEq, cond_true, cond_false, args0_zero, args0_succ, args0_nil]) (by simp only [evs, evo, sp_cons, sp_nil, upd_b, Nat.reduceBEq, cond_true, cond_false, args0_zero, args0_succ, args0_nil]) (hy _) (by decide) ?_
    rintro b' H' n' ⟨h2, hh2, rfl, rfl, hnn, hJ2⟩
    have tE := And.intro (@upd_upd AV) <| And.intro (@upd_upd (Option Blk)) <| And.intro Cf.cells.eq_1 <| And.intro ty3 <| And.intro ty4 <| And.intro ty23 <| And.intro ty124 <| And.intro t0 <| And.intro t1 <| And.intro t3 <| And.intro e1 <| And.intro e2 <| And.intro e3 <| And.intro e4 <| e5; repeat' first | ((with_reducible first | apply w_seq | apply w_region | apply wl_nil | apply wr_nil | apply wr_nilA | apply wr_nilE | apply go_normal | apply go_ret | apply go_exit | apply blk_normal | apply blk_ret | apply blk_here | apply w_block | apply w_skip | apply w_exit | apply w_label)) | ((with_reducible first | apply wz (tok Try.prog) | apply wr_z (tok Try.prog)); exact zZ; decide) | ((with_reducible first | apply wzg (tok Try.prog) | apply wr_zg (tok Try.prog)); exact zU; exact zL; exact zU; exact zZ; decide) | ((with_reducible first | apply wr_v (tok Try.prog)); exact zZ; decide) | ((with_reducible first | apply wr_xB (tok Try.prog)); exact zU; exact zZ; decide) | ((with_reducible first | apply wr_storeS (tok Try.prog)); exact zV; exact zV; exact zS) | ((with_reducible first | apply wcall' | apply wr_call); exact zV; exact zVs; exact zAs; (focus (with_unfolding_all first | exact pf107 c _ _)); decide) | ((with_reducible first | apply w_if); exact zV; constructor <;> intro _) | ((with_reducible first | apply w_drawS 14 mixed); (focus (decide +kernel))) | fail
    all_goals try clear tE
    · have hgt : ¬ n ≤ c.t := by have := of_decide_eq_true ‹decide (n > c.t) = true›; omega
      obtain ⟨k2, k3⟩ := hnext hgt
      refine ⟨kk, by omega, pre ++ [levOf c.s n m], (n + c.f - 1).tdiv c.f, 4 * c.f, h2, by rw [hl', hlev, if_neg hgt]; simp, k2, by omega, d1, k3, hJ2, hh2, by simp only [sp_cons, sp_nil, upd_b, Nat.reduceBEq, cond_true, cond_false, args0_zero, args0_succ, args0_nil, t0], by simp only [sp_cons, sp_nil, upd_b, Nat.reduceBEq, cond_true, cond_false, args0_zero, args0_succ, args0_nil, t1], by simp only [sp_cons, sp_nil, upd_b, Nat.reduceBEq, cond_true, cond_false, args0_zero, args0_succ, args0_nil, t3], rfl, rfl⟩
    · have hle : n ≤ c.t := by have := of_decide_eq_false ‹decide (n > c.t) = false›; omega
      rw [hlev, if_pos hle] at hl'
      exact ⟨trivial, .tuple [], resv_of (xs := []) (tok Try.prog) rfl, rfl, h2, by rw [hl']; exact hJ2, hh2, fun i hi => upd_ne _ _ hi⟩
end Go.Proofs.Ytlmighkbeacjnaa
