/- conf.Levels. -/
import Derived.Test.YtclldbeefbbdlaaC6
open Go Go.Lg
set_option linter.unusedSimpArgs false
set_option maxHeartbeats 2000000
namespace Go.Proofs.Ytclldbeefbbdlaa
def Cf.levs4 (c : Cf) : Option (List Lev) := if c.ok = true then (if c.levs.length ≤ 4 then some c.levs else none) else none
def H3 (v : AV) (lb : LoopB) : Heap := upd (upd (upd noHeap 0 (some (.cells [v] 33))) 1 (some .deferred)) 2 (some (.loop lb))
/-- The memory of the loop that gathers the levels. -/
def gath (lb : LoopB) (l : List Lev) (H : Heap) (n : Nat) : Prop := 3 ≤ n ∧ match l with
  | [] => H = H3 .empty lb
  | l => ∃ o, 3 ≤ o ∧ o < n ∧ H = upd (H3 (.slice o 0 l.length none 4) lb) o (some (.cells (levRows l).flatten 37))
def levL (c : Cf) : List AV := [.any, .vptr c.cells, .ptr 0 0, .int .i64 0, .any, .any, .any, .any, .any, .func (.func 86) [] [.vptr c.cells], .any, .any, .any, .any, .any, .any, .any, .any, .any]
theorem levfn_pur (c : Cf) : Pur (.func (.func 86) [] [.vptr c.cells]) := .func (fun x hx => by cases hx) (fun x hx => by
  rcases List.mem_singleton.1 hx with rfl; exact .vptr (cells_pur c))
theorem heap_eq1 {n : Nat} (hn : 3 ≤ n) (X0 D L A L2 B X L3 : Option Blk) :
    upd (upd (upd (upd (upd (upd (upd (upd (upd noHeap 0 X0) 1 D) 2 L) n A) 2 L2) (n + 1) B) 0 X) n none) 2 L3 = upd (upd (upd (upd noHeap 0 X) 1 D) 2 L3) (n + 1) B := by
  funext i
  simp only [upd, noHeap]
  by_cases h0 : i = 0
  · subst h0; simp [show ¬ 0 = n by omega, show ¬ 0 = n + 1 by omega]
  · by_cases h1 : i = 1
    · subst h1; simp [show ¬ 1 = n by omega, show ¬ 1 = n + 1 by omega]
    · by_cases h2 : i = 2
      · subst h2; simp [show ¬ 2 = n by omega, show ¬ 2 = n + 1 by omega]
      · by_cases h3 : i = n + 1
        · subst h3; simp [h0, h2]
        · by_cases h4 : i = n
          · subst h4; simp [h0, h1, h2]
          · simp [h0, h1, h2, h3, h4]
theorem heap_eq2 {n o : Nat} (hn : 3 ≤ n) (ho : 3 ≤ o) (hon : o < n) (X0 D L C A L2 B X L3 : Option Blk) :
    upd (upd (upd (upd (upd (upd (upd (upd (upd (upd (upd noHeap 0 X0) 1 D) 2 L) o C) n A) 2 L2) o none) (n + 1) B) 0 X) n none) 2 L3 = upd (upd (upd (upd noHeap 0 X) 1 D) 2 L3) (n + 1) B := by
  funext i
  simp only [upd, noHeap]
  by_cases h0 : i = 0
  · subst h0; simp [show ¬ 0 = n by omega, show ¬ 0 = n + 1 by omega, show ¬ 0 = o by omega]
  · by_cases h1 : i = 1
    · subst h1; simp [show ¬ 1 = n by omega, show ¬ 1 = n + 1 by omega, show ¬ 1 = o by omega]
    · by_cases h2 : i = 2
      · subst h2; simp [show ¬ 2 = n by omega, show ¬ 2 = n + 1 by omega, show ¬ 2 = o by omega]
      · by_cases h3 : i = n + 1
        · subst h3; simp [h0, h2]
        · by_cases h4 : i = n
          · subst h4; simp [h0, h1, h2]
          · by_cases h5 : i = o
            · subst h5; simp [h0, h1, h2, h3, h4]
            · simp [h0, h1, h2, h3, h4, h5]
theorem pf16_bad (c : Cf) (hc : c.ok = false) : PF Try.prog 16 [.agg c.cells] (fun r => r = .tuple [.empty, .int .i64 8]) := by
  refine pf_of_w0 Try.func16 (c := _) rfl rfl (Nat.le_of_ble_eq_true rfl) (by simp only [Cf.cells, pur_bool, pur_int, pur_str, pur_empty, pur_nilptr, pur_nilFunc, pur_nilIface, pur_any, pur_agg, pur_tuple, pur_vptr, pur_view, pur_iface, pur_func, tup, List.mem_cons, forall_eq_or_imp, List.not_mem_nil, false_implies, implies_true, and_self, forall_const, forall_eq]) ?_
  rw [show Try.f16.ntmps = 19 from rfl]
  have ehc : Cf.cells c = [.int .i64 c.p, .int .i64 c.z, .int .i64 c.f, .int .i64 c.s, .int .i64 c.st, .int .i64 c.fr, .int .i64 c.cl, .int .i64 c.q, .int .i64 c.t] := rfl
  have tE := And.intro (@upd_upd AV) <| And.intro (@upd_upd (Option Blk)) <| And.intro Cf.cells.eq_1 <| And.intro ty3 <| And.intro ty4 <| And.intro ty25 <| And.intro ty33 <| And.intro ty23 <| And.intro ty37 <| And.intro Try.results16 <| hc; repeat' first | ((with_reducible first | apply w_seq | apply w_region | apply wl_nil | apply wr_nil | apply wr_nilA | apply wr_nilE | apply go_normal | apply go_ret | apply go_exit | apply blk_normal | apply blk_ret | apply blk_here | apply w_block | apply w_skip | apply w_exit | apply w_label)) | ((with_reducible first | apply blk_off); decide) | ((with_reducible first | apply wz (tok Try.prog) | apply wr_z (tok Try.prog)); exact zZ; decide) | ((with_reducible first | apply wzg (tok Try.prog) | apply wr_zg (tok Try.prog)); exact zU; exact zL; exact zU; exact zZ; decide) | ((with_reducible first | apply wskip' | apply wr_skip); exact zU; exact zL; exact zU; decide) | ((with_reducible first | apply wskip0'); exact zU; exact zL; exact zU) | ((with_reducible first | apply w_alloc (tok Try.prog)); exact zT; decide) | ((with_reducible first | apply w_store (tok Try.prog)); exact zV; exact zV; exact zS) | ((with_reducible first | apply wcall' | apply wr_call); exact zV; exact zVs; exact zAs; (focus (with_unfolding_all first | exact pf53 c)); decide) | ((with_reducible first | apply wcallg' | apply wr_callg); exact zU; exact zL; exact zU; exact zV; exact zVs; exact zAs; (focus (with_unfolding_all first | exact pf53 c)); decide) | ((with_reducible first | apply wsplit | apply wr_split); exact zU; exact zL; constructor <;> intro _) | ((with_reducible first | apply w_ift'); exact zV; exact zU) | ((with_reducible first | apply w_iff'); exact zV; exact zU) | ((with_reducible first | apply w_if); exact zV; constructor <;> intro _) | ((with_reducible first | apply w_draw0 mixed); (focus (decide +kernel))) | ((with_reducible apply w_ret); (repeat (with_reducible first | apply go_ret | apply blk_ret)); (with_reducible apply done_ret (tok Try.prog)); exact zT; exact zD; exact zX) | ((with_reducible first | apply done_end (tok Try.prog)); exact zT; exact zD; exact zXn)
  all_goals try clear tE
  rfl
theorem pf16_ok (c : Cf) (hc : c.ok = true) : PF Try.prog 16 [.agg c.cells] (fun r => r = if c.levs.length ≤ 4 then .tuple [.view (levRows c.levs), .int .i64 0] else .tuple [.empty, .int .i64 8]) := by
  refine pf_of_wd0 Try.func16 (c := _) rfl rfl (Nat.le_of_ble_eq_true rfl) (by simp only [Cf.cells, pur_bool, pur_int, pur_str, pur_empty, pur_nilptr, pur_nilFunc, pur_nilIface, pur_any, pur_agg, pur_tuple, pur_vptr, pur_view, pur_iface, pur_func, tup, List.mem_cons, forall_eq_or_imp, List.not_mem_nil, false_implies, implies_true, and_self, forall_const, forall_eq]) ?_
  rw [show Try.f16.ntmps = 19 from rfl]
  have tE := And.intro (@upd_upd AV) <| And.intro (@upd_upd (Option Blk)) <| And.intro Cf.cells.eq_1 <| And.intro ty3 <| And.intro ty4 <| And.intro ty25 <| And.intro ty33 <| And.intro ty23 <| And.intro ty37 <| And.intro Try.results16 <| hc; repeat' first | ((with_reducible first | apply w_seq | apply w_region | apply wl_nil | apply wr_nil | apply wr_nilA | apply wr_nilE | apply go_normal | apply go_ret | apply go_exit | apply blk_normal | apply blk_ret | apply blk_here | apply w_block | apply w_skip | apply w_exit | apply w_label)) | ((with_reducible first | apply blk_off); decide) | ((with_reducible first | apply wz (tok Try.prog) | apply wr_z (tok Try.prog)); exact zZ; decide) | ((with_reducible first | apply wzg (tok Try.prog) | apply wr_zg (tok Try.prog)); exact zU; exact zL; exact zU; exact zZ; decide) | ((with_reducible first | apply wskip' | apply wr_skip); exact zU; exact zL; exact zU; decide) | ((with_reducible first | apply wskip0'); exact zU; exact zL; exact zU) | ((with_reducible first | apply w_alloc (tok Try.prog)); exact zT; decide) | ((with_reducible first | apply w_store (tok Try.prog)); exact zV; exact zV; exact zS) | ((with_reducible first | apply wcall' | apply wr_call); exact zV; exact zVs; exact zAs; (focus (with_unfolding_all first | exact pf53 c | exact pf54 c)); decide) | ((with_reducible first | apply wcallg' | apply wr_callg); exact zU; exact zL; exact zU; exact zV; exact zVs; exact zAs; (focus (with_unfolding_all first | exact pf53 c | exact pf54 c)); decide) | ((with_reducible first | apply wsplit | apply wr_split); exact zU; exact zL; constructor <;> intro _) | ((with_reducible first | apply w_ift'); exact zV; exact zU) | ((with_reducible first | apply w_iff'); exact zV; exact zU) | ((with_reducible first | apply w_if); exact zV; constructor <;> intro _) | ((with_reducible first | apply w_draw0 mixed); (focus (decide +kernel))) | ((with_reducible apply w_ret); (repeat (with_reducible first | apply go_ret | apply blk_ret)); (with_reducible apply done_ret (tok Try.prog)); exact zT; exact zD; exact zX) | ((with_reducible first | apply done_end (tok Try.prog)); exact zT; exact zD; exact zXn)
  all_goals try clear tE
  refine w_cut (levL c) [some (.cells [.empty] 33)] [] ?_ ?_
  · (have tu0 : Pur _ := .vptr (cells_pur c); have tu1 : Pur _ := levfn_pur c; have tE := And.intro (@upd_upd AV) <| And.intro (@upd_upd (Option Blk)) <| levL.eq_1; exact kcan [0])
  refine w_rangeL (hs := [some (.cells [.empty] 33)]) (g := 86) (first := []) (cap := [.vptr c.cells]) (R := fun r H n => r = .ret (.tuple []) ∧ ∃ lb : LoopB, lb.state = .ready ∧ lb.pending = none ∧ ∃ H', gath lb c.levs H' n ∧ H' 3 = none ∧ ∀ i, i ≠ 3 → H i = H' i) rfl ⟨_, Try.func86, rfl, rfl⟩ ?_ ?_
  · intro lb hlb
    have hst : lb.state = .ready := by rw [hlb]
    have hpe : lb.pending = none := by rw [hlb]
    have hH3 : hl ([some (.cells [.empty] 33)] ++ [some .deferred, some (.loop lb)]) = H3 .empty lb := by
      funext i
      match i with
      | 0 | 1 | 2 => rfl
      | i + 3 => rfl
    rw [hH3]
    refine (ac86 c hc 2 3 _ (gath lb) ?_ ?_ ⟨Nat.le_refl _, rfl⟩ rfl).mono ?_
    · rintro l H n n' ⟨h1, h2⟩ hn
      refine ⟨by omega, ?_⟩
      cases l with
      | nil => exact h2
      | cons a l => obtain ⟨o, h3, h4, h5⟩ := h2; exact ⟨o, h3, by omega, h5⟩
    · rintro pre x H n ⟨rest, hrest⟩ ⟨hn, hg⟩
      have e0 : ((0 : Nat) == n) = false := by rw [beq_eq_false_iff_ne]; omega
      have e0' : ((0 : Nat) == n + 1) = false := by rw [beq_eq_false_iff_ne]; omega
      have e2 : ((2 : Nat) == n) = false := by rw [beq_eq_false_iff_ne]; omega
      have f2 : (n == (2 : Nat)) = false := by rw [beq_eq_false_iff_ne]; omega
      have f1 : (n == n + 1) = false := by rw [beq_eq_false_iff_ne]; omega
      cases pre with
      | nil =>
        have hg : H = H3 .empty lb := hg
        subst hg
        refine yc_of_w (lb := lb) rfl hst (by rw [hlb]; rfl) (by rw [hlb]; intro t ht; have ht : t ∈ [10] := ht; rw [List.mem_singleton] at ht; subst ht; show 10 < 19; decide) ?_
        subst hlb
        show W _ _ _ _ _ _ ⟨upd (args0 (levL c)) 10 (.agg x.cells), H3 .empty _, n, []⟩
        simp only [levL, Lev.cells]
        clear hst hpe
        have tE := And.intro (@upd_upd AV) <| And.intro (@upd_upd (Option Blk)) <| And.intro ty3 <| And.intro ty4 <| And.intro ty25 <| And.intro ty33 <| And.intro ty23 <| And.intro ty37 <| And.intro H3.eq_1 <| And.intro noHeap.eq_1 <| And.intro e0 <| And.intro e0' <| e2; repeat' first | ((with_reducible first | apply w_seq | apply w_region | apply wl_nil | apply wr_nil | apply wr_nilA | apply wr_nilE | apply go_normal | apply go_ret | apply go_exit | apply blk_normal | apply blk_ret | apply blk_here | apply w_block | apply w_skip | apply w_exit | apply w_label)) | ((with_reducible first | apply blk_off); decide) | ((with_reducible first | apply wz (tok Try.prog) | apply wr_z (tok Try.prog)); exact zZ; decide) | ((with_reducible first | apply wzg (tok Try.prog) | apply wr_zg (tok Try.prog)); exact zU; exact zL; exact zU; exact zZ; decide) | ((with_reducible first | apply wskip' | apply wr_skip); exact zU; exact zL; exact zU; decide) | ((with_reducible first | apply wskip0'); exact zU; exact zL; exact zU) | ((with_reducible first | apply w_alloc (tok Try.prog)); exact zT; decide) | ((with_reducible first | apply w_store (tok Try.prog)); exact zV; exact zV; exact zS) | ((with_reducible first | apply wsplit | apply wr_split); exact zU; exact zL; constructor <;> intro _) | ((with_reducible first | apply w_ift'); exact zV; exact zU) | ((with_reducible first | apply w_iff'); exact zV; exact zU) | ((with_reducible first | apply w_if); exact zV; constructor <;> intro _) | ((with_reducible first | apply w_draw0 mixed); (focus (decide +kernel))) | ((with_reducible apply w_ret); (repeat (with_reducible first | apply go_ret | apply blk_ret)); (with_reducible apply done_ret (tok Try.prog)); exact zT; exact zD; exact zX) | ((with_reducible first | apply done_end (tok Try.prog)); exact zT; exact zD; exact zXn)
        all_goals try clear tE
        refine ⟨rfl, rfl, by simp only [H3, upd_b, e2, cond_false, Nat.reduceBEq, cond_true, beq_self_eq_true], ?_⟩
        refine w_postg ?_
        simp only [H3]
        have tE := And.intro (@upd_upd AV) <| And.intro (@upd_upd (Option Blk)) <| And.intro ty3 <| And.intro ty4 <| And.intro ty25 <| And.intro ty33 <| And.intro ty23 <| And.intro ty37 <| And.intro noHeap.eq_1 <| And.intro e0 <| And.intro e0' <| And.intro e2 <| And.intro f2 <| f1; repeat' first | ((with_reducible first | apply w_seq | apply w_region | apply wl_nil | apply wr_nil | apply wr_nilA | apply wr_nilE | apply go_normal | apply go_ret | apply go_exit | apply blk_normal | apply blk_ret | apply blk_here | apply w_block | apply w_skip | apply w_exit | apply w_label)) | ((with_reducible first | apply blk_off); decide) | ((with_reducible first | apply wz (tok Try.prog) | apply wr_z (tok Try.prog)); exact zZ; decide) | ((with_reducible first | apply wzg (tok Try.prog) | apply wr_zg (tok Try.prog)); exact zU; exact zL; exact zU; exact zZ; decide) | ((with_reducible first | apply wr_v (tok Try.prog)); exact zZ; decide) | ((with_reducible first | apply wr_vg (tok Try.prog)); exact zU; exact zL; exact zU; exact zZ; decide) | ((with_reducible first | apply wr_xA (tok Try.prog) | apply wr_xS (tok Try.prog)); exact zI; decide) | ((with_reducible first | apply wr_xgA (tok Try.prog)); exact zU; exact zL; exact zU; exact zI; decide) | ((with_reducible first | apply wskip' | apply wr_skip); exact zU; exact zL; exact zU; decide) | ((with_reducible first | apply wskip0'); exact zU; exact zL; exact zU) | ((with_reducible first | apply w_alloc (tok Try.prog)); exact zT; decide) | ((with_reducible first | apply w_store (tok Try.prog)); exact zV; exact zV; exact zS) | ((with_reducible first | apply w_ap | apply wr_ap); (focus (first | (intro _ ho _ hr _; (with_reducible apply ap_new (tok Try.prog) ho (hr := hr)); exact zT; exact zU; exact zT; exact zT; exact zU; exact zA; exact zV; exact zK; exact zM; exact zK; exact zK; decide) | (intro _ ho _ hr _; (with_reducible apply ap_own (tok Try.prog) ho (hr := hr)); exact zT; exact zU; exact zT; exact zT; exact zU; exact zV; exact zV; exact zH; exact zKo; exact zM; (focus (first | rfl | assumption)); exact zKo; exact zKo; decide))); decide) | ((with_reducible first | apply wp | apply wr_p); (focus (first | ((with_reducible first | apply pure_bs1 (tok Try.prog)); exact zT; exact zU; exact zT; exact zP; exact zR; exact zC; decide; decide; exact zU; exact zU))); decide) | ((with_reducible first | apply wpg | apply wr_pg); exact zU; exact zL; exact zU; (focus (first | ((with_reducible first | apply pure_bs1 (tok Try.prog)); exact zT; exact zU; exact zT; exact zP; exact zR; exact zC; decide; decide; exact zU; exact zU))); decide) | ((with_reducible first | apply wsplit | apply wr_split); exact zU; exact zL; constructor <;> intro _) | ((with_reducible first | apply w_ift'); exact zV; exact zU) | ((with_reducible first | apply w_iff'); exact zV; exact zU) | ((with_reducible first | apply w_if); exact zV; constructor <;> intro _) | ((with_reducible first | apply w_drawE mixed); (focus (decide +kernel))) | ((with_reducible apply w_ret); (repeat (with_reducible first | apply go_ret | apply blk_ret)); (with_reducible apply done_ret (tok Try.prog)); exact zT; exact zD; exact zX) | ((with_reducible first | apply done_end (tok Try.prog)); exact zT; exact zD; exact zXn)
        all_goals try clear tE
        refine ⟨fun _ h => by (cases h), _, gM (g_kill n), rfl, ?_, rfl, by show n ≤ n + 1 + 1; omega, by show 3 ≤ n + 1 + 1; omega, n + 1, by omega, by show n + 1 < n + 1 + 1; omega, ?_⟩
        · simp only [upd_b, e2, e0, f2, show ((2 : Nat) == n + 1) = false from by rw [beq_eq_false_iff_ne]; omega, Nat.reduceBEq, beq_self_eq_true, cond_true, cond_false]
        · exact heap_eq1 hn _ _ _ _ _ _ _ _
      | cons p0 pre =>
        have hpl : pre.length ≤ 8 := by
          have := levsF_len c.s c.f c.t 8 c.p c.z
          have h8 : c.levs.length ≤ 8 := this
          rw [hrest] at h8; simp at h8; omega
        obtain ⟨o, ho, hon, hg⟩ := hg
        subst hg
        have o0 : ((0 : Nat) == o) = false := by rw [beq_eq_false_iff_ne]; omega
        have o2 : ((2 : Nat) == o) = false := by rw [beq_eq_false_iff_ne]; omega
        have on : (n == o) = false := by rw [beq_eq_false_iff_ne]; omega
        have no : (o == n) = false := by rw [beq_eq_false_iff_ne]; omega
        have o2' : (o == (2 : Nat)) = false := by rw [beq_eq_false_iff_ne]; omega
        have hsn : (levRows (p0 :: pre)).flatten ++ x.cells = (levRows (p0 :: pre ++ [x])).flatten := levFlat_snoc _ _
        refine yc_of_w (lb := lb) (by rw [upd_ne _ _ (by omega)]; rfl) hst (by rw [hlb]; rfl) (by rw [hlb]; intro t ht; have ht : t ∈ [10] := ht; rw [List.mem_singleton] at ht; subst ht; show 10 < 19; decide) ?_
        subst hlb
        show W _ _ _ _ _ _ ⟨upd (args0 (levL c)) 10 (.agg x.cells), upd (H3 _ _) o _, n, []⟩
        simp only [levL, Lev.cells, List.length_cons]
        clear hst hpe
        have tE := And.intro (@upd_upd AV) <| And.intro (@upd_upd (Option Blk)) <| And.intro ty3 <| And.intro ty4 <| And.intro ty25 <| And.intro ty33 <| And.intro ty23 <| And.intro ty37 <| And.intro H3.eq_1 <| And.intro noHeap.eq_1 <| And.intro e0 <| And.intro e0' <| And.intro e2 <| And.intro o0 <| And.intro o2 <| And.intro on <| no; repeat' first | ((with_reducible first | apply w_seq | apply w_region | apply wl_nil | apply wr_nil | apply wr_nilA | apply wr_nilE | apply go_normal | apply go_ret | apply go_exit | apply blk_normal | apply blk_ret | apply blk_here | apply w_block | apply w_skip | apply w_exit | apply w_label)) | ((with_reducible first | apply blk_off); decide) | ((with_reducible first | apply wz (tok Try.prog) | apply wr_z (tok Try.prog)); exact zZ; decide) | ((with_reducible first | apply wzg (tok Try.prog) | apply wr_zg (tok Try.prog)); exact zU; exact zL; exact zU; exact zZ; decide) | ((with_reducible first | apply wskip' | apply wr_skip); exact zU; exact zL; exact zU; decide) | ((with_reducible first | apply wskip0'); exact zU; exact zL; exact zU) | ((with_reducible first | apply w_alloc (tok Try.prog)); exact zT; decide) | ((with_reducible first | apply w_store (tok Try.prog)); exact zV; exact zV; exact zS) | ((with_reducible first | apply wsplit | apply wr_split); exact zU; exact zL; constructor <;> intro _) | ((with_reducible first | apply w_ift'); exact zV; exact zU) | ((with_reducible first | apply w_iff'); exact zV; exact zU) | ((with_reducible first | apply w_if); exact zV; constructor <;> intro _) | ((with_reducible first | apply w_draw0 mixed); (focus (decide +kernel))) | ((with_reducible apply w_ret); (repeat (with_reducible first | apply go_ret | apply blk_ret)); (with_reducible apply done_ret (tok Try.prog)); exact zT; exact zD; exact zX) | ((with_reducible first | apply done_end (tok Try.prog)); exact zT; exact zD; exact zXn)
        all_goals try clear tE
        refine ⟨rfl, rfl, by simp only [H3, upd_b, e2, o2, cond_false, Nat.reduceBEq, cond_true, beq_self_eq_true], ?_⟩
        refine w_postg ?_
        simp only [H3]
        have tE := And.intro (@upd_upd AV) <| And.intro (@upd_upd (Option Blk)) <| And.intro ty3 <| And.intro ty4 <| And.intro ty25 <| And.intro ty33 <| And.intro ty23 <| And.intro ty37 <| And.intro noHeap.eq_1 <| And.intro e0 <| And.intro e0' <| And.intro e2 <| And.intro f2 <| And.intro f1 <| And.intro o0 <| And.intro o2 <| And.intro on <| And.intro no <| And.intro o2' <| levFlat_len; repeat' first | ((with_reducible first | apply w_seq | apply w_region | apply wl_nil | apply wr_nil | apply wr_nilA | apply wr_nilE | apply go_normal | apply go_ret | apply go_exit | apply blk_normal | apply blk_ret | apply blk_here | apply w_block | apply w_skip | apply w_exit | apply w_label)) | ((with_reducible first | apply blk_off); decide) | ((with_reducible first | apply wz (tok Try.prog) | apply wr_z (tok Try.prog)); exact zZ; decide) | ((with_reducible first | apply wzg (tok Try.prog) | apply wr_zg (tok Try.prog)); exact zU; exact zL; exact zU; exact zZ; decide) | ((with_reducible first | apply wr_v (tok Try.prog)); exact zZ; decide) | ((with_reducible first | apply wr_vg (tok Try.prog)); exact zU; exact zL; exact zU; exact zZ; decide) | ((with_reducible first | apply wr_xA (tok Try.prog) | apply wr_xS (tok Try.prog)); exact zI; decide) | ((with_reducible first | apply wr_xgA (tok Try.prog)); exact zU; exact zL; exact zU; exact zI; decide) | ((with_reducible first | apply wskip' | apply wr_skip); exact zU; exact zL; exact zU; decide) | ((with_reducible first | apply wskip0'); exact zU; exact zL; exact zU) | ((with_reducible first | apply w_alloc (tok Try.prog)); exact zT; decide) | ((with_reducible first | apply w_store (tok Try.prog)); exact zV; exact zV; exact zS) | ((with_reducible first | apply w_ap | apply wr_ap); (focus (first | (intro _ ho _ hr _; (with_reducible apply ap_new (tok Try.prog) ho (hr := hr)); exact zT; exact zU; exact zT; exact zT; exact zU; exact zA; exact zV; exact zK; exact zM; exact zK; exact zK; decide) | (intro _ ho _ hr _; (with_reducible apply ap_own (tok Try.prog) ho (hr := hr)); exact zT; exact zU; exact zT; exact zT; exact zU; exact zV; exact zV; exact zH; exact zKo; exact zM; (focus (first | rfl | assumption)); exact zKo; exact zKo; decide))); decide) | ((with_reducible first | apply wp | apply wr_p); (focus (first | ((with_reducible first | apply pure_bs1 (tok Try.prog)); exact zT; exact zU; exact zT; exact zP; exact zR; exact zC; decide; decide; exact zU; exact zU))); decide) | ((with_reducible first | apply wpg | apply wr_pg); exact zU; exact zL; exact zU; (focus (first | ((with_reducible first | apply pure_bs1 (tok Try.prog)); exact zT; exact zU; exact zT; exact zP; exact zR; exact zC; decide; decide; exact zU; exact zU))); decide) | ((with_reducible first | apply wsplit | apply wr_split); exact zU; exact zL; constructor <;> intro _) | ((with_reducible first | apply w_ift'); exact zV; exact zU) | ((with_reducible first | apply w_iff'); exact zV; exact zU) | ((with_reducible first | apply w_if); exact zV; constructor <;> intro _) | ((with_reducible first | apply w_drawE mixed); (focus (decide +kernel))) | ((with_reducible apply w_ret); (repeat (with_reducible first | apply go_ret | apply blk_ret)); (with_reducible apply done_ret (tok Try.prog)); exact zT; exact zD; exact zX) | ((with_reducible first | apply done_end (tok Try.prog)); exact zT; exact zD; exact zXn)
        all_goals try clear tE
        refine ⟨fun _ h => by (cases h), _, gM (g_kill n), rfl, ?_, rfl, by show n ≤ n + 1 + 1; omega, by show 3 ≤ n + 1 + 1; omega, n + 1, by omega, by show n + 1 < n + 1 + 1; omega, ?_⟩
        · simp only [upd_b, e2, e0, f2, o2, show ((2 : Nat) == n + 1) = false from by rw [beq_eq_false_iff_ne]; omega, Nat.reduceBEq, beq_self_eq_true, cond_true, cond_false]
        · refine (heap_eq2 hn ho hon _ _ _ _ _ _ _ _ _).trans ?_
          have e : (p0 :: pre ++ [x]).length = pre.length + 1 + 1 := by simp
          rw [← hsn, e]; rfl
    · rintro r H n ⟨h1, h', h2, h3, h4⟩
      exact ⟨h1, lb, hst, hpe, h', h2, h3, h4⟩
  · rintro r H n ⟨h1, lb, hst, hpe, H', hg, h3n, hH⟩
    obtain ⟨l0, ls, hls⟩ : ∃ l0 ls, c.levs = l0 :: ls := ⟨_, _, rfl⟩
    rw [hls] at hg
    obtain ⟨hn, o, ho, hon, hg⟩ := hg
    have ho3 : o ≠ 3 := by rintro rfl; rw [hg, upd_same] at h3n; cases h3n
    have H0 : H 0 = some (.cells [.slice o 0 (l0 :: ls).length none 4] 33) := by rw [hH 0 (by decide), hg, upd_ne _ _ (by omega)]; rfl
    have H1 : H 1 = some .deferred := by rw [hH 1 (by decide), hg, upd_ne _ _ (by omega)]; rfl
    have H2 : H 2 = some (.loop lb) := by rw [hH 2 (by decide), hg, upd_ne _ _ (by omega)]; rfl
    have Ho : H o = some (.cells (levRows (l0 :: ls)).flatten 37) := by rw [hH o ho3, hg, upd_same]
    refine ⟨.tuple [], lb, h1, H2, by rw [hst]; decide, ?_⟩
    rw [hpe]
    have o0 : (o == (0 : Nat)) = false := by rw [beq_eq_false_iff_ne]; omega
    have o2 : (o == (2 : Nat)) = false := by rw [beq_eq_false_iff_ne]; omega
    simp only [levL, List.length_cons, List.length_nil, Nat.zero_add] at H0 ⊢
    have tE := And.intro (@upd_upd AV) <| And.intro (@upd_upd (Option Blk)) <| And.intro ty3 <| And.intro ty4 <| And.intro ty25 <| And.intro ty33 <| And.intro ty23 <| And.intro ty37 <| And.intro H0 <| And.intro H1 <| H2; repeat' first | ((with_reducible first | apply w_seq | apply w_region | apply wl_nil | apply wr_nil | apply wr_nilA | apply wr_nilE | apply go_normal | apply go_ret | apply go_exit | apply blk_normal | apply blk_ret | apply blk_here | apply w_block | apply w_skip | apply w_exit | apply w_label)) | ((with_reducible first | apply blk_off); decide) | ((with_reducible first | apply wz (tok Try.prog) | apply wr_z (tok Try.prog)); exact zZ; decide) | ((with_reducible first | apply wzg (tok Try.prog) | apply wr_zg (tok Try.prog)); exact zU; exact zL; exact zU; exact zZ; decide) | ((with_reducible first | apply wskip' | apply wr_skip); exact zU; exact zL; exact zU; decide) | ((with_reducible first | apply wskip0'); exact zU; exact zL; exact zU) | ((with_reducible first | apply w_alloc (tok Try.prog)); exact zT; decide) | ((with_reducible first | apply w_store (tok Try.prog)); exact zV; exact zV; exact zS) | ((with_reducible first | apply wsplit | apply wr_split); exact zU; exact zL; constructor <;> intro _) | ((with_reducible first | apply w_ift'); exact zV; exact zU) | ((with_reducible first | apply w_iff'); exact zV; exact zU) | ((with_reducible first | apply w_if); exact zV; constructor <;> intro _) | ((with_reducible first | apply w_draw0 mixed); (focus (decide +kernel))) | ((with_reducible apply w_ret); (repeat (with_reducible first | apply go_ret | apply blk_ret)); (with_reducible apply done_ret (tok Try.prog)); exact zT; exact zD; exact zX) | ((with_reducible first | apply done_end (tok Try.prog)); exact zT; exact zD; exact zXn)
    all_goals try clear tE
    · have hgt : (4 : Int) < ((ls.length + 1 : Nat) : Int) := of_decide_eq_true ‹decide (((ls.length + 1 : Nat) : Int) > 4) = true›
      refine w_ret (go_ret (doneD_ret (xs := [.empty, .int .i64 8]) (tok Try.prog) Try.results16 ⟨by simp only [sp_cons, sp_nil, upd_b, Nat.reduceBEq, cond_true, cond_false, args0_zero, args0_succ, args0_nil, H1], trivial⟩ ?_ (by simp only [pur_bool, pur_int, pur_str, pur_empty, pur_nilptr, pur_nilFunc, pur_nilIface, pur_any, pur_agg, pur_tuple, pur_vptr, pur_view, pur_iface, pur_func, tup, List.mem_cons, forall_eq_or_imp, List.not_mem_nil, false_implies, implies_true, and_self, forall_const, forall_eq]) ?_))
      · simp only [resA, resOne, killAll, pv, pvx, pvIndexAddr, pvIndex, pvOwn, evp, List.replicate_succ, List.replicate_zero, List.flatten_cons, List.flatten_nil, List.append_nil, List.cons_append, List.nil_append, buildA, placesA, fillA, wr, known, cellsA, List.set_cons_zero, List.set_cons_succ, and_self, Nat.reduceSub, List.length_set, and_true, List.all_cons, List.all_nil, scalA, Bool.and_true, Bool.and_self, evo, evs, cval, Option.bind_some, Option.map_some, binv, intop, pvPick, pvUn, pvConv, pvExtract, fieldOf, pvField, pvFieldAddr, pvLoad, pvNil, loadA, partA, isAggD, pvIface, isIface, pvLen, lenA, pvCall, noYieldB, List.drop_succ_cons, List.drop_zero, List.take_succ_cons, List.take_zero, List.getElem?_cons_succ, List.getElem?_cons_zero, List.getElem?_toArray, List.length_cons, List.length_nil, Bool.false_eq_true, Nat.reduceAdd, Nat.reduceLeDiff, Nat.zero_add, Nat.reduceEqDiff, Nat.one_ne_zero, Int.reduceEq, Int.reduceLT, Int.reduceLE, Int.reduceToNat, Nat.reduceMul, Nat.reduceLT, hl_zero, hl_succ, hl_nil, sp_cons, sp_nil, upd_b, Nat.reduceBEq, cond_true, cond_false, args0_zero, args0_succ, args0_nil, ↓reduceIte, ty33, H1]
      · show _ = _
        rw [if_neg (by rw [hls]; simp only [List.length_cons]; omega)]; rfl
    · have hle : ¬ (4 : Int) < ((ls.length + 1 : Nat) : Int) := of_decide_eq_false ‹decide (((ls.length + 1 : Nat) : Int) > 4) = false›
      refine W.ghost (g_freeze_cell (id := 0) (j := 0) (id2 := o) (off := 0) (len := ls.length + 1) (cap := none) (sz := 4) (cs := [.slice o 0 (ls.length + 1) none 4]) (cs2 := (levRows (l0 :: ls)).flatten) (e := 33) (e2 := 37) (by omega) (by simp only [sp_cons, sp_nil, upd_b, Nat.reduceBEq, cond_true, cond_false, args0_zero, args0_succ, args0_nil]) rfl (by simp only [sp_cons, sp_nil, upd_b, Nat.reduceBEq, cond_true, cond_false, args0_zero, args0_succ, args0_nil, o0, o2, Ho]) (by rw [levFlat_len]; simp)) ?_
      have hch : chunk 4 (ls.length + 1) (List.drop 0 (levRows (l0 :: ls)).flatten) = levRows (l0 :: ls) := by
        have := chunk_flatten (rows := levRows (l0 :: ls)) (sz := 4) levRows_row
        rw [levRows_len] at this
        simpa using this
      rw [hch]
      have o1 : ((1 : Nat) == o) = false := by rw [beq_eq_false_iff_ne]; omega
      refine w_ret (doneD_ret (xs := [.view (levRows (l0 :: ls)), .int .i64 0]) (tok Try.prog) Try.results16 ⟨by simp only [sp_cons, sp_nil, upd_b, Nat.reduceBEq, cond_true, cond_false, args0_zero, args0_succ, args0_nil, H1, o1], trivial⟩ ?_ ?_ ?_)
      · simp only [resA, resOne, killAll, pv, pvx, pvIndexAddr, pvIndex, pvOwn, evp, List.replicate_succ, List.replicate_zero, List.flatten_cons, List.flatten_nil, List.append_nil, List.cons_append, List.nil_append, buildA, placesA, fillA, wr, known, cellsA, List.set_cons_zero, List.set_cons_succ, and_self, Nat.reduceSub, List.length_set, and_true, List.all_cons, List.all_nil, scalA, Bool.and_true, Bool.and_self, evo, evs, cval, Option.bind_some, Option.map_some, binv, intop, pvPick, pvUn, pvConv, pvExtract, fieldOf, pvField, pvFieldAddr, pvLoad, pvNil, loadA, partA, isAggD, pvIface, isIface, pvLen, lenA, pvCall, noYieldB, List.drop_succ_cons, List.drop_zero, List.take_succ_cons, List.take_zero, List.getElem?_cons_succ, List.getElem?_cons_zero, List.getElem?_toArray, List.length_cons, List.length_nil, Bool.false_eq_true, Nat.reduceAdd, Nat.reduceLeDiff, Nat.zero_add, Nat.reduceEqDiff, Nat.one_ne_zero, Int.reduceEq, Int.reduceLT, Int.reduceLE, Int.reduceToNat, Nat.reduceMul, Nat.reduceLT, hl_zero, hl_succ, hl_nil, sp_cons, sp_nil, upd_b, Nat.reduceBEq, cond_true, cond_false, args0_zero, args0_succ, args0_nil, ↓reduceIte, ty33, H1, o1]
      · exact .tuple (fun x hx => by
          simp only [List.mem_cons, List.not_mem_nil, or_false] at hx
          rcases hx with rfl | rfl
          · exact .view (levRows_pur _)
          · exact .int _ _)
      · show _ = _
        rw [if_pos (by rw [hls]; simp only [List.length_cons]; omega), hls]; rfl
end Go.Proofs.Ytclldbeefbbdlaa
