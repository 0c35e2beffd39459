/- One level's shape. -/
import Derived.Test.YtlmighkbeacjnaaC3
open Go Go.Lg
set_option linter.unusedSimpArgs false
set_option maxHeartbeats 2000000
namespace Go.Proofs.Ytlmighkbeacjnaa
structure Lev where
  n : Int
  m : Int
  h : Int
  w : Int
def Lev.cells (l : Lev) : List AV := [.int .i64 l.n, .int .i64 l.m, .int .i64 l.h, .int .i64 l.w]
theorem lev_pur (l : Lev) : ∀ x, x ∈ l.cells → Pur x := by simp only [Lev.cells, pur_bool, pur_int, pur_str, pur_empty, pur_nilptr, pur_nilFunc, pur_nilIface, pur_any, pur_agg, pur_tuple, pur_vptr, pur_view, pur_iface, pur_func, tup, List.mem_cons, forall_eq_or_imp, List.not_mem_nil, false_implies, implies_true, and_self, forall_const, forall_eq]
def W64 (x : Int) : Int := IntKind.i64.wrap x
def levOf (s n m : Int) : Lev := ⟨n, m, hi n, W64 (W64 (s * W64 (8 + m)) + 64)⟩
theorem pf107 (c : Cf) (n m : Int) : PF Try.prog 107 [.agg c.cells, .int .i64 n, .int .i64 m] (fun r => r = .agg (levOf c.s n m).cells) := by
  refine pf_of_w0 Try.func107 (c := _) rfl rfl (Nat.le_of_ble_eq_true rfl) (by simp only [Cf.cells, pur_bool, pur_int, pur_str, pur_empty, pur_nilptr, pur_nilFunc, pur_nilIface, pur_any, pur_agg, pur_tuple, pur_vptr, pur_view, pur_iface, pur_func, tup, List.mem_cons, forall_eq_or_imp, List.not_mem_nil, false_implies, implies_true, and_self, forall_const, forall_eq]) ?_
  rw [show Try.f107.ntmps = 39 from rfl]
  have tE := And.intro (@upd_upd AV) <| And.intro (@upd_upd (Option Blk)) <| And.intro Cf.cells.eq_1 <| And.intro ty3 <| And.intro ty4 <| And.intro ty29 <| And.intro ty23 <| And.intro ty124 <| Try.results107; repeat' first | ((with_reducible first | apply w_seq | apply w_region | apply wl_nil | apply wr_nil | apply wr_nilA | apply wr_nilE | apply go_normal | apply go_ret | apply go_exit | apply blk_normal | apply blk_ret | apply blk_here | apply w_block | apply w_skip | apply w_exit | apply w_label)) | ((with_reducible first | apply wz (tok Try.prog) | apply wr_z (tok Try.prog)); exact zZ; decide) | ((with_reducible first | apply w_alloc (tok Try.prog)); exact zT; decide) | ((with_reducible first | apply wcall' | apply wr_call); exact zV; exact zVs; exact zAs; (focus (with_unfolding_all first | exact pf110 _)); decide) | fail
  all_goals try clear tE
  refine w_loopA (S := Nat) (fun h => [.any, .int .i64 n, .int .i64 m, .vptr c.cells, .any, .any, .ptr 0 0, .int .i64 (h : Int), .int .i64 (lv h), .int .i64 (le_ h), .any, .any, .any, .any, .any, .any, .any, .any, .any, .any, .any, .any, .any, .any, .any, .any, .any, .any, .any, .any, .any, .any, .any, .any, .any, .any, .any, .any, .any]) (fun _ => [some (.cells [.int .i64 0, .int .i64 0, .int .i64 0, .int .i64 0] 124)]) [] (fun h => 1 ≤ h ∧ h ≤ 7 ∧ ∀ k : Nat, 1 ≤ k → k < h → lv k < n) (fun h => 7 - h) 1 ?_ ⟨by omega, by omega, fun k h1 h2 => by omega⟩ ?_
  · (have tE := And.intro (@upd_upd AV) <| And.intro (@upd_upd (Option Blk)) <| Cf.cells.eq_1; exact kcan [0])
  · rintro h ⟨h1, h7, hl⟩
    simp only [St.of, List.length_nil, List.length_cons]
    by_cases e7 : h = 7
    · subst e7
      have hh : hi n = ((7 : Nat) : Int) := hi_eq h1 h7 hl (.inl rfl)
      have e9 : le_ ((7 : Nat) : Int) = 2 := rfl
      have tE := And.intro (@upd_upd AV) <| And.intro (@upd_upd (Option Blk)) <| And.intro Cf.cells.eq_1 <| And.intro ty3 <| And.intro ty4 <| And.intro ty29 <| And.intro ty23 <| And.intro ty124 <| And.intro Try.results107 <| e9; repeat' first | ((with_reducible first | apply w_seq | apply w_region | apply wl_nil | apply wr_nil | apply wr_nilA | apply wr_nilE | apply go_normal | apply go_ret | apply go_exit | apply blk_normal | apply blk_ret | apply blk_here | apply w_block | apply w_skip | apply w_exit | apply w_label)) | ((with_reducible first | apply wz (tok Try.prog) | apply wr_z (tok Try.prog)); exact zZ; decide) | ((with_reducible first | apply wskip' | apply wr_skip); exact zU; exact zL; exact zU; decide) | ((with_reducible first | apply w_store (tok Try.prog)); exact zV; exact zV; exact zS) | ((with_reducible first | apply w_iff'); exact zV; exact zU) | ((with_reducible apply w_ret); (repeat (with_reducible first | apply go_ret | apply blk_ret)); (with_reducible apply done_ret (tok Try.prog)); exact zT; exact zD; exact zX) | fail
      all_goals try clear tE
      rw [show levOf c.s n m = ⟨n, m, ((7 : Nat) : Int), W64 (W64 (c.s * W64 (8 + m)) + 64)⟩ from by simp only [levOf, hh]]
      rfl
    · have e9 : le_ (h : Int) = 0 := if_neg (by omega)
      have hw : IntKind.i64.wrap ((h : Int) + 1) = ((h + 1 : Nat) : Int) := by rw [wrap64 (by omega) (by omega)]; rfl
      have tE := And.intro (@upd_upd AV) <| And.intro (@upd_upd (Option Blk)) <| And.intro Cf.cells.eq_1 <| And.intro ty3 <| And.intro ty4 <| And.intro ty29 <| And.intro ty23 <| And.intro ty124 <| And.intro Try.results107 <| And.intro e9 <| hw; repeat' first | ((with_reducible first | apply w_seq | apply w_region | apply wl_nil | apply wr_nil | apply wr_nilA | apply wr_nilE | apply go_normal | apply go_ret | apply go_exit | apply blk_normal | apply blk_ret | apply blk_here | apply w_block | apply w_skip | apply w_exit | apply w_label)) | ((with_reducible first | apply wz (tok Try.prog) | apply wr_z (tok Try.prog)); exact zZ; decide) | ((with_reducible first | apply wzg (tok Try.prog) | apply wr_zg (tok Try.prog)); exact zU; exact zL; exact zU; exact zZ; decide) | ((with_reducible first | apply w_store (tok Try.prog)); exact zV; exact zV; exact zS) | ((with_reducible first | apply wcall' | apply wr_call); exact zV; exact zVs; exact zAs; (focus (with_unfolding_all first | exact pf110 _)); decide) | ((with_reducible first | apply w_if); exact zV; constructor <;> intro _) | ((with_reducible apply w_ret); (repeat (with_reducible first | apply go_ret | apply blk_ret)); (with_reducible apply done_ret (tok Try.prog)); exact zT; exact zD; exact zX) | fail
      all_goals try clear tE
      · have hlt : lv (h : Int) < n := of_decide_eq_true ‹decide (lv (h : Int) < n) = true›
        refine ⟨h + 1, by omega, ⟨by omega, by omega, fun k k1 k2 => ?_⟩, ?_⟩
        · by_cases ek : k = h
          · subst ek; exact hlt
          · exact hl k k1 (by omega)
        · (have tu0 : Pur _ := .vptr (cells_pur c); have tE := And.intro (@upd_upd AV) <| @upd_upd (Option Blk); exact kcan [0])
      · have hge : ¬ lv (h : Int) < n := of_decide_eq_false ‹decide (lv (h : Int) < n) = false›
        have hh : hi n = (h : Int) := hi_eq h1 h7 hl (.inr (by omega))
        rw [show levOf c.s n m = ⟨n, m, (h : Int), W64 (W64 (c.s * W64 (8 + m)) + 64)⟩ from by simp only [levOf, hh]]
        rfl
/-- Powers of two. -/
def p2 : Nat → Int
  | 0 => 1
  | i + 1 => 2 * p2 i
theorem p2_le : ∀ i : Nat, i ≤ 7 → 0 < p2 i ∧ p2 i ≤ 128
  | 0, _ | 1, _ | 2, _ | 3, _ | 4, _ | 5, _ | 6, _ | 7, _ => by decide
  | i + 8, h => by omega
theorem p2_lv (h : Nat) (h1 : 1 ≤ h) (h6 : h ≤ 6) : p2 h = lv h := by
  have hc : h = 1 ∨ h = 2 ∨ h = 3 ∨ h = 4 ∨ h = 5 ∨ h = 6 := by omega
  rcases hc with rfl | rfl | rfl | rfl | rfl | rfl <;> rfl
theorem pf109 (h : Nat) (hh : h ≤ 7) : PF Try.prog 109 [.int .i64 (h : Int)] (fun r => r = .int .i64 (p2 h)) := by
  refine pf_of_w0 Try.func109 (c := _) rfl rfl (Nat.le_of_ble_eq_true rfl) (by simp only [pur_bool, pur_int, pur_str, pur_empty, pur_nilptr, pur_nilFunc, pur_nilIface, pur_any, pur_agg, pur_tuple, pur_vptr, pur_view, pur_iface, pur_func, tup, List.mem_cons, forall_eq_or_imp, List.not_mem_nil, false_implies, implies_true, and_self, forall_const, forall_eq]) ?_
  rw [show Try.f109.ntmps = 13 from rfl]
  have tE := And.intro (@upd_upd AV) <| And.intro (@upd_upd (Option Blk)) <| And.intro ty3 <| And.intro ty4 <| Try.results109; repeat' first | ((with_reducible first | apply w_seq | apply w_region | apply wl_nil | apply wr_nil | apply wr_nilA | apply wr_nilE | apply go_normal | apply go_ret | apply go_exit | apply blk_normal | apply blk_ret | apply blk_here | apply w_block | apply w_skip | apply w_exit | apply w_label)) | ((with_reducible first | apply wz (tok Try.prog) | apply wr_z (tok Try.prog)); exact zZ; decide) | fail
  all_goals try clear tE
  refine w_loopA (S := Nat) (fun i => [.int .i64 (h : Int), .any, .any, .int .i64 (p2 i), .int .i64 (i : Int), .any, .any, .any, .any, .any, .any, .any, .any]) (fun _ => []) [] (fun i => i ≤ h) (fun i => h - i) 0 ?_ (Nat.zero_le _) ?_
  · (have tE := And.intro (@upd_upd AV) <| @upd_upd (Option Blk); exact kcan [])
  · intro i hi
    simp only [St.of, List.length_nil]
    by_cases e : i < h
    · have h1 : ((i : Int) < (h : Int)) = True := by simp; omega
      have hb := p2_le i (by omega)
      have hw : IntKind.i64.wrap (2 * p2 i) = p2 (i + 1) := by rw [wrap64 (by omega) (by omega)]; rfl
      have hw2 : IntKind.i64.wrap ((i : Int) + 1) = ((i + 1 : Nat) : Int) := by rw [wrap64 (by omega) (by omega)]; rfl
      have tE := And.intro (@upd_upd AV) <| And.intro (@upd_upd (Option Blk)) <| And.intro ty3 <| And.intro ty4 <| And.intro Try.results109 <| And.intro h1 <| And.intro hw <| hw2; repeat' first | ((with_reducible first | apply w_seq | apply w_region | apply wl_nil | apply wr_nil | apply wr_nilA | apply wr_nilE | apply go_normal | apply go_ret | apply go_exit | apply blk_normal | apply blk_ret | apply blk_here | apply w_block | apply w_skip | apply w_exit | apply w_label)) | ((with_reducible first | apply wz (tok Try.prog) | apply wr_z (tok Try.prog)); exact zZ; decide) | ((with_reducible first | apply w_ift'); exact zV; exact zU) | fail
      all_goals try clear tE
      refine ⟨i + 1, by omega, by omega, ?_⟩
      (have tE := And.intro (@upd_upd AV) <| @upd_upd (Option Blk); exact kcan [])
    · have h1 : ((i : Int) < (h : Int)) = False := by simp; omega
      have e2 : i = h := by omega
      subst e2
      have tE := And.intro (@upd_upd AV) <| And.intro (@upd_upd (Option Blk)) <| And.intro ty3 <| And.intro ty4 <| And.intro Try.results109 <| h1; repeat' first | ((with_reducible first | apply w_seq | apply w_region | apply wl_nil | apply wr_nil | apply wr_nilA | apply wr_nilE | apply go_normal | apply go_ret | apply go_exit | apply blk_normal | apply blk_ret | apply blk_here | apply w_block | apply w_skip | apply w_exit | apply w_label)) | ((with_reducible first | apply wz (tok Try.prog) | apply wr_z (tok Try.prog)); exact zZ; decide) | ((with_reducible first | apply w_iff'); exact zV; exact zU) | ((with_reducible apply w_ret); (repeat (with_reducible first | apply go_ret | apply blk_ret)); (with_reducible apply done_ret (tok Try.prog)); exact zT; exact zD; exact zX) | fail
      all_goals try clear tE
      rfl
theorem pf104 (n : Int) (hn : n ≤ 64) : PF Try.prog 104 [.int .i64 n] (fun r => r = .int .i64 (hi n)) := by
  refine pf_of_w0 Try.func104 (c := _) rfl rfl (Nat.le_of_ble_eq_true rfl) (by simp only [pur_bool, pur_int, pur_str, pur_empty, pur_nilptr, pur_nilFunc, pur_nilIface, pur_any, pur_agg, pur_tuple, pur_vptr, pur_view, pur_iface, pur_func, tup, List.mem_cons, forall_eq_or_imp, List.not_mem_nil, false_implies, implies_true, and_self, forall_const, forall_eq]) ?_
  rw [show Try.f104.ntmps = 11 from rfl]
  have tE := And.intro (@upd_upd AV) <| And.intro (@upd_upd (Option Blk)) <| And.intro ty3 <| And.intro ty4 <| Try.results104; repeat' first | ((with_reducible first | apply w_seq | apply w_region | apply wl_nil | apply wr_nil | apply wr_nilA | apply wr_nilE | apply go_normal | apply go_ret | apply go_exit | apply blk_normal | apply blk_ret | apply blk_here | apply w_block | apply w_skip | apply w_exit | apply w_label)) | ((with_reducible first | apply wz (tok Try.prog) | apply wr_z (tok Try.prog)); exact zZ; decide) | fail
  all_goals try clear tE
  refine w_loopA (S := Nat) (fun i => [.int .i64 n, .any, .any, .int .i64 (i : Int), .any, .any, .any, .any, .any, .any, .any]) (fun _ => []) [] (fun i => 1 ≤ i ∧ i ≤ 6 ∧ ∀ k : Nat, 1 ≤ k → k < i → lv k < n) (fun i => 7 - i) 1 ?_ ⟨by omega, by omega, fun k h1 h2 => by omega⟩ ?_
  · (have tE := And.intro (@upd_upd AV) <| @upd_upd (Option Blk); exact kcan [])
  · rintro i ⟨h1, h6, hl⟩
    simp only [St.of, List.length_nil]
    have hp := p2_lv i h1 h6
    by_cases e : lv (i : Int) < n
    · have i6 : i ≠ 6 := by rintro rfl; have : lv ((6 : Nat) : Int) = 64 := rfl; omega
      have hd : (lv (i : Int) < n) = True := by simpa using e
      have hw2 : IntKind.i64.wrap ((i : Int) + 1) = ((i + 1 : Nat) : Int) := by rw [wrap64 (by omega) (by omega)]; rfl
      have tE := And.intro (@upd_upd AV) <| And.intro (@upd_upd (Option Blk)) <| And.intro ty3 <| And.intro ty4 <| And.intro Try.results104 <| And.intro hp <| And.intro hd <| hw2; repeat' first | ((with_reducible first | apply w_seq | apply w_region | apply wl_nil | apply wr_nil | apply wr_nilA | apply wr_nilE | apply go_normal | apply go_ret | apply go_exit | apply blk_normal | apply blk_ret | apply blk_here | apply w_block | apply w_skip | apply w_exit | apply w_label)) | ((with_reducible first | apply wz (tok Try.prog) | apply wr_z (tok Try.prog)); exact zZ; decide) | ((with_reducible first | apply wcall' | apply wr_call); exact zV; exact zVs; exact zAs; (focus (with_unfolding_all first | exact pf109 _ (by omega))); decide) | ((with_reducible first | apply w_ift'); exact zV; exact zU) | fail
      all_goals try clear tE
      refine ⟨i + 1, by omega, ⟨by omega, by omega, fun k k1 k2 => ?_⟩, ?_⟩
      · by_cases ek : k = i
        · subst ek; exact e
        · exact hl k k1 (by omega)
      · (have tE := And.intro (@upd_upd AV) <| @upd_upd (Option Blk); exact kcan [])
    · have hd : (lv (i : Int) < n) = False := by simpa using e
      have hh : hi n = (i : Int) := hi_eq h1 (by omega) hl (.inr (by omega))
      have tE := And.intro (@upd_upd AV) <| And.intro (@upd_upd (Option Blk)) <| And.intro ty3 <| And.intro ty4 <| And.intro Try.results104 <| And.intro hp <| hd; repeat' first | ((with_reducible first | apply w_seq | apply w_region | apply wl_nil | apply wr_nil | apply wr_nilA | apply wr_nilE | apply go_normal | apply go_ret | apply go_exit | apply blk_normal | apply blk_ret | apply blk_here | apply w_block | apply w_skip | apply w_exit | apply w_label)) | ((with_reducible first | apply wz (tok Try.prog) | apply wr_z (tok Try.prog)); exact zZ; decide) | ((with_reducible first | apply wcall' | apply wr_call); exact zV; exact zVs; exact zAs; (focus (with_unfolding_all first | exact pf109 _ (by omega))); decide) | ((with_reducible first | apply w_iff'); exact zV; exact zU) | ((with_reducible apply w_ret); (repeat (with_reducible first | apply go_ret | apply blk_ret)); (with_reducible apply done_ret (tok Try.prog)); exact zT; exact zD; exact zX) | fail
      all_goals try clear tE
      rw [hh]; rfl
end Go.Proofs.Ytlmighkbeacjnaa
