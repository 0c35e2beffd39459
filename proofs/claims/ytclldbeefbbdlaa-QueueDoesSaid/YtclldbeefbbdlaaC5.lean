/- The reference's levels. -/
import Derived.Test.YtclldbeefbbdlaaC4
open Go Go.Lg
set_option linter.unusedSimpArgs false
set_option maxHeartbeats 2000000
namespace Go.Proofs.Ytclldbeefbbdlaa
/-- The levels of a tree with 'n' leaves at the bottom: 'f' to each, 't' at most on top. -/
def levsF (s f t : Int) : Nat → Int → Int → List Lev
  | 0, _, _ => []
  | k + 1, n, m => levOf s n m :: (if n ≤ t then [] else levsF s f t k ((n + f - 1).tdiv f) (4 * f))
def Cf.levs (c : Cf) : List Lev := levsF c.s c.f c.t 8 c.p c.z
def levRows (l : List Lev) : List (List AV) := l.map Lev.cells
/-- The out variable of a loop: nothing yet, or a slice of its own. -/
def outA (k : Nat) : AV := match k with
  | 0 => .empty
  | k + 1 => .slice 0 0 (k + 1) none 4
def outH (l : List Lev) : List (Option Blk) := match l with
  | [] => [none]
  | l => [some (.cells (levRows l).flatten 37)]
theorem levRows_len (l : List Lev) : (levRows l).length = l.length := by simp [levRows]
theorem levRows_row {l : List Lev} : ∀ r, r ∈ levRows l → r.length = 4 := by
  intro r hr
  simp only [levRows, List.mem_map] at hr
  obtain ⟨x, _, rfl⟩ := hr; rfl
theorem levRows_pur (l : List Lev) : ∀ r, r ∈ levRows l → ∀ x, x ∈ r → Pur x := by
  intro r hr
  simp only [levRows, List.mem_map] at hr
  obtain ⟨x, _, rfl⟩ := hr; exact lev_pur x
theorem levFlat_pur (l : List Lev) : ∀ x, x ∈ (levRows l).flatten → Pur x := by
  intro x hx
  obtain ⟨r, h1, h2⟩ := List.mem_flatten.1 hx
  exact levRows_pur l r h1 x h2
theorem levFlat_len (l : List Lev) : (levRows l).flatten.length = l.length * 4 := by
  induction l with
  | nil => rfl
  | cons x l ih => simp only [levRows, List.map_cons, List.flatten_cons, List.length_append, List.length_cons]; simp only [levRows] at ih; rw [ih]; simp [Lev.cells]; omega
theorem levFlat_snoc (l : List Lev) (x : Lev) : (levRows l).flatten ++ x.cells = (levRows (l ++ [x])).flatten := by simp [levRows]
theorem div_bound {n f : Int} (hn : 1 ≤ n) (h64 : n ≤ 64) (hf : 2 ≤ f ∧ f ≤ 8) : 1 ≤ (n + f - 1).tdiv f ∧ 2 * (n + f - 1).tdiv f ≤ n + 1 := by
  have hc : f = 2 ∨ f = 3 ∨ f = 4 ∨ f = 5 ∨ f = 6 ∨ f = 7 ∨ f = 8 := by omega
  rw [Int.tdiv_eq_ediv_of_nonneg (by omega)]
  rcases hc with rfl | rfl | rfl | rfl | rfl | rfl | rfl <;> omega
theorem pf56 (c : Cf) (hc : c.ok = true) : PF Try.prog 56 [.agg c.cells] (fun r => r = .view (levRows c.levs)) := by
  have hb : (1 ≤ c.p ∧ c.p ≤ 64) ∧ (1 ≤ c.z ∧ c.z ≤ 32) ∧ (2 ≤ c.f ∧ c.f ≤ 8) ∧ (1 ≤ c.s ∧ c.s ≤ 4) ∧ (1 ≤ c.t ∧ c.t ≤ 16) := by
    simp [Cf.ok, Cf.spans, inB] at hc; omega
  obtain ⟨hp, hz, hf, hs, ht⟩ := hb
  refine pf_of_w0 Try.func56 (c := _) rfl rfl (Nat.le_of_ble_eq_true rfl) (by simp only [Cf.cells, pur_bool, pur_int, pur_str, pur_empty, pur_nilptr, pur_nilFunc, pur_nilIface, pur_any, pur_agg, pur_tuple, pur_vptr, pur_view, pur_iface, pur_func, tup, List.mem_cons, forall_eq_or_imp, List.not_mem_nil, false_implies, implies_true, and_self, forall_const, forall_eq]) ?_
  rw [show Try.f56.ntmps = 40 from rfl]
  have tE := And.intro (@upd_upd AV) <| And.intro (@upd_upd (Option Blk)) <| And.intro Cf.cells.eq_1 <| And.intro ty3 <| And.intro ty4 <| And.intro ty33 <| And.intro ty23 <| And.intro ty37 <| Try.results56; repeat' first | ((with_reducible first | apply w_seq | apply w_region | apply wl_nil | apply wr_nil | apply wr_nilA | apply wr_nilE | apply go_normal | apply go_ret | apply go_exit | apply blk_normal | apply blk_ret | apply blk_here | apply w_block | apply w_skip | apply w_exit | apply w_label)) | ((with_reducible first | apply blk_off); decide) | ((with_reducible first | apply wz (tok Try.prog) | apply wr_z (tok Try.prog)); exact zZ; decide) | ((with_reducible first | apply wzg (tok Try.prog) | apply wr_zg (tok Try.prog)); exact zU; exact zL; exact zU; exact zZ; decide) | ((with_reducible first | apply wr_v (tok Try.prog)); exact zZ; decide) | ((with_reducible first | apply wr_vg (tok Try.prog)); exact zU; exact zL; exact zU; exact zZ; decide) | ((with_reducible first | apply wr_xA (tok Try.prog) | apply wr_xS (tok Try.prog)); exact zI; decide) | ((with_reducible first | apply wr_xgA (tok Try.prog)); exact zU; exact zL; exact zU; exact zI; decide) | ((with_reducible first | apply wskip' | apply wr_skip); exact zU; exact zL; exact zU; decide) | ((with_reducible first | apply wskip0'); exact zU; exact zL; exact zU) | ((with_reducible first | apply w_alloc (tok Try.prog)); exact zT; decide) | ((with_reducible first | apply w_store (tok Try.prog)); exact zV; exact zV; exact zS) | ((with_reducible first | apply w_ap | apply wr_ap); (focus (first | (intro _ ho _ hr _; (with_reducible apply ap_new (tok Try.prog) ho (hr := hr)); exact zT; exact zU; exact zT; exact zT; exact zU; exact zA; exact zV; exact zK; exact zM; exact zK; exact zK; decide) | (intro _ ho _ hr _; (with_reducible apply ap_own (tok Try.prog) ho (hr := hr)); exact zT; exact zU; exact zT; exact zT; exact zU; exact zV; exact zV; exact zH; exact zKo; exact zM; (focus (first | rfl | assumption)); exact zKo; exact zKo; decide))); decide) | ((with_reducible first | apply wp | apply wr_p); (focus (first | ((with_reducible first | apply pure_bs1 (tok Try.prog)); exact zT; exact zU; exact zT; exact zP; exact zR; exact zC; decide; decide; exact zU; exact zU))); decide) | ((with_reducible first | apply wpg | apply wr_pg); exact zU; exact zL; exact zU; (focus (first | ((with_reducible first | apply pure_bs1 (tok Try.prog)); exact zT; exact zU; exact zT; exact zP; exact zR; exact zC; decide; decide; exact zU; exact zU))); decide) | ((with_reducible first | apply wsplit | apply wr_split); exact zU; exact zL; constructor <;> intro _) | ((with_reducible first | apply w_ift'); exact zV; exact zU) | ((with_reducible first | apply w_iff'); exact zV; exact zU) | ((with_reducible first | apply w_if); exact zV; constructor <;> intro _) | ((with_reducible first | apply w_drawE mixed); (focus (decide +kernel))) | ((with_reducible apply w_ret); (repeat (with_reducible first | apply go_ret | apply blk_ret)); (with_reducible apply done_ret (tok Try.prog)); exact zT; exact zD; exact zX) | ((with_reducible first | apply done_end (tok Try.prog)); exact zT; exact zD; exact zXn)
  all_goals try clear tE
  refine w_loopA (S := List Lev × Int × Int × Nat) (fun x => [.any, .vptr c.cells, .any, outA x.1.length, .int .i64 x.2.1, .int .i64 x.2.2.1, .any, .any, .any, .any, .any, .any, .any, .any, .any, .any, .any, .any, .any, .any, .any, .any, .any, .any, .any, .any, .any, .any, .any, .any, .any, .any, .any, .any, .any, .any, .any, .any, .any, .any]) (fun x => outH x.1) [] (fun x => c.levs = x.1 ++ levsF c.s c.f c.t x.2.2.2 x.2.1 x.2.2.1 ∧ 2 ≤ x.2.2.2 ∧ x.2.2.2 ≤ 8 ∧ x.1.length + x.2.2.2 = 8 ∧ 1 ≤ x.2.1 ∧ x.2.1 ≤ p2 (x.2.2.2 - 2)) (fun x => x.2.2.2) ([], c.p, c.z, 8) ?_ ⟨rfl, (show (2 : Nat) ≤ 8 by decide), (show (8 : Nat) ≤ 8 by decide), rfl, hp.1, hp.2⟩ ?_
  · (have tE := And.intro (@upd_upd AV) <| And.intro (@upd_upd (Option Blk)) <| And.intro outA.eq_1 <| And.intro outA.eq_2 <| And.intro outH.eq_1 <| Cf.cells.eq_1; exact kcan [0])
  · rintro ⟨ls, n, m, k⟩ ⟨hl, hk, hk8, hlk, hn, hnk⟩
    simp only at hl hk hk8 hlk hn hnk
    have hn64 : n ≤ 64 := by have := p2_le (k - 2) (by omega); have hc : k = 2 ∨ k = 3 ∨ k = 4 ∨ k = 5 ∨ k = 6 ∨ k = 7 ∨ k = 8 := by omega
                             rcases hc with rfl | rfl | rfl | rfl | rfl | rfl | rfl <;> simp [p2] at hnk <;> omega
    obtain ⟨d1, d2⟩ := div_bound hn hn64 hf
    have e1 : IntKind.i64.wrap (n + c.f) = n + c.f := wrap64 (by omega) (by omega)
    have e2 : IntKind.i64.wrap (n + c.f - 1) = n + c.f - 1 := wrap64 (by omega) (by omega)
    have e3 : IntKind.i64.wrap ((n + c.f - 1).tdiv c.f) = (n + c.f - 1).tdiv c.f := wrap64 (by omega) (by omega)
    have e4 : IntKind.i64.wrap (4 * c.f) = 4 * c.f := wrap64 (by omega) (by omega)
    have e5 : (c.f = 0) = False := by simp; omega
    obtain ⟨k, rfl⟩ : ∃ j, k = j + 1 := ⟨k - 1, by omega⟩
    have hlev : levsF c.s c.f c.t (k + 1) n m = levOf c.s n m :: (if n ≤ c.t then [] else levsF c.s c.f c.t k ((n + c.f - 1).tdiv c.f) (4 * c.f)) := rfl
    have hnext : ¬ n ≤ c.t → 2 ≤ k ∧ (n + c.f - 1).tdiv c.f ≤ p2 (k - 2) := fun h => by
      obtain ⟨j, rfl⟩ : ∃ j, k = j + 2 := by
        have : k ≠ 1 := by rintro rfl; simp [p2] at hnk; omega
        exact ⟨k - 2, by omega⟩
      have e : p2 (j + 2 + 1 - 2) = 2 * p2 j := rfl
      rw [e] at hnk
      exact ⟨by omega, by show _ ≤ p2 j; omega⟩
    have hcell : [AV.int IntKind.i64 n, AV.int IntKind.i64 m, AV.int IntKind.i64 (hi n), AV.int IntKind.i64 (IntKind.i64.wrap (IntKind.i64.wrap (c.s * IntKind.i64.wrap (8 + m)) + 64))] = (levOf c.s n m).cells := rfl
    cases ls with
    | nil =>
      rw [show outA ([] : List Lev).length = .empty from rfl, show outH [] = [none] from rfl]
      simp only [St.of, List.length_nil, List.length_cons, Nat.zero_add]
      have tE := And.intro (@upd_upd AV) <| And.intro (@upd_upd (Option Blk)) <| And.intro Cf.cells.eq_1 <| And.intro ty3 <| And.intro ty4 <| And.intro ty33 <| And.intro ty23 <| And.intro ty37 <| And.intro Try.results56 <| And.intro e1 <| And.intro e2 <| And.intro e3 <| And.intro e4 <| e5; repeat' first | ((with_reducible first | apply w_seq | apply w_region | apply wl_nil | apply wr_nil | apply wr_nilA | apply wr_nilE | apply go_normal | apply go_ret | apply go_exit | apply blk_normal | apply blk_ret | apply blk_here | apply w_block | apply w_skip | apply w_exit | apply w_label)) | ((with_reducible first | apply blk_off); decide) | ((with_reducible first | apply wz (tok Try.prog) | apply wr_z (tok Try.prog)); exact zZ; decide) | ((with_reducible first | apply wzg (tok Try.prog) | apply wr_zg (tok Try.prog)); exact zU; exact zL; exact zU; exact zZ; decide) | ((with_reducible first | apply wr_v (tok Try.prog)); exact zZ; decide) | ((with_reducible first | apply wr_vg (tok Try.prog)); exact zU; exact zL; exact zU; exact zZ; decide) | ((with_reducible first | apply wr_xA (tok Try.prog) | apply wr_xS (tok Try.prog)); exact zI; decide) | ((with_reducible first | apply wr_xgA (tok Try.prog)); exact zU; exact zL; exact zU; exact zI; decide) | ((with_reducible first | apply wskip' | apply wr_skip); exact zU; exact zL; exact zU; decide) | ((with_reducible first | apply wskip0'); exact zU; exact zL; exact zU) | ((with_reducible first | apply w_alloc (tok Try.prog)); exact zT; decide) | ((with_reducible first | apply w_store (tok Try.prog)); exact zV; exact zV; exact zS) | ((with_reducible first | apply wcall' | apply wr_call); exact zV; exact zVs; exact zAs; (focus (with_unfolding_all first | exact pf89 _ (by omega))); decide) | ((with_reducible first | apply wcallg' | apply wr_callg); exact zU; exact zL; exact zU; exact zV; exact zVs; exact zAs; (focus (with_unfolding_all first | exact pf89 _ (by omega))); decide) | ((with_reducible first | apply w_ap | apply wr_ap); (focus (first | (intro _ ho _ hr _; (with_reducible apply ap_new (tok Try.prog) ho (hr := hr)); exact zT; exact zU; exact zT; exact zT; exact zU; exact zA; exact zV; exact zK; exact zM; exact zK; exact zK; decide) | (intro _ ho _ hr _; (with_reducible apply ap_own (tok Try.prog) ho (hr := hr)); exact zT; exact zU; exact zT; exact zT; exact zU; exact zV; exact zV; exact zH; exact zKo; exact zM; (focus (first | rfl | assumption)); exact zKo; exact zKo; decide))); decide) | ((with_reducible first | apply wp | apply wr_p); (focus (first | ((with_reducible first | apply pure_bs1 (tok Try.prog)); exact zT; exact zU; exact zT; exact zP; exact zR; exact zC; decide; decide; exact zU; exact zU))); decide) | ((with_reducible first | apply wpg | apply wr_pg); exact zU; exact zL; exact zU; (focus (first | ((with_reducible first | apply pure_bs1 (tok Try.prog)); exact zT; exact zU; exact zT; exact zP; exact zR; exact zC; decide; decide; exact zU; exact zU))); decide) | ((with_reducible first | apply wsplit | apply wr_split); exact zU; exact zL; constructor <;> intro _) | ((with_reducible first | apply w_ift'); exact zV; exact zU) | ((with_reducible first | apply w_iff'); exact zV; exact zU) | ((with_reducible first | apply w_if); exact zV; constructor <;> intro _) | ((with_reducible first | apply w_drawE mixed); (focus (decide +kernel))) | ((with_reducible apply w_ret); (repeat (with_reducible first | apply go_ret | apply blk_ret)); (with_reducible apply done_ret (tok Try.prog)); exact zT; exact zD; exact zX) | ((with_reducible first | apply done_end (tok Try.prog)); exact zT; exact zD; exact zXn)
      all_goals try clear tE
      · have hle : n ≤ c.t := of_decide_eq_true ‹decide (n ≤ c.t) = true›
        rw [hlev, if_pos hle] at hl
        refine W.ghost (g_freeze (d := 2) (id := 1) (off := 0) (len := 1) (cap := none) (sz := 4) (cs := (levOf c.s n m).cells) (e := 37) rfl rfl (Nat.le_refl 4)) ?_
        have tE := And.intro (@upd_upd AV) <| And.intro (@upd_upd (Option Blk)) <| And.intro Cf.cells.eq_1 <| And.intro levOf.eq_1 <| And.intro Lev.cells.eq_1 <| And.intro chunk.eq_1 <| And.intro chunk.eq_2 <| And.intro ty33 <| Try.results56; repeat' first | ((with_reducible first | apply w_seq | apply w_region | apply wl_nil | apply wr_nil | apply wr_nilA | apply wr_nilE | apply go_normal | apply go_ret | apply go_exit | apply blk_normal | apply blk_ret | apply blk_here | apply w_block | apply w_skip | apply w_exit | apply w_label)) | ((with_reducible first | apply blk_off); decide) | ((with_reducible first | apply wz (tok Try.prog) | apply wr_z (tok Try.prog)); exact zZ; decide) | ((with_reducible first | apply wzg (tok Try.prog) | apply wr_zg (tok Try.prog)); exact zU; exact zL; exact zU; exact zZ; decide) | ((with_reducible first | apply wskip' | apply wr_skip); exact zU; exact zL; exact zU; decide) | ((with_reducible first | apply wskip0'); exact zU; exact zL; exact zU) | ((with_reducible first | apply w_alloc (tok Try.prog)); exact zT; decide) | ((with_reducible first | apply w_store (tok Try.prog)); exact zV; exact zV; exact zS) | ((with_reducible first | apply wsplit | apply wr_split); exact zU; exact zL; constructor <;> intro _) | ((with_reducible first | apply w_ift'); exact zV; exact zU) | ((with_reducible first | apply w_iff'); exact zV; exact zU) | ((with_reducible first | apply w_if); exact zV; constructor <;> intro _) | ((with_reducible first | apply w_draw0 mixed); (focus (decide +kernel))) | ((with_reducible apply w_ret); (repeat (with_reducible first | apply go_ret | apply blk_ret)); (with_reducible apply done_ret (tok Try.prog)); exact zT; exact zD; exact zX) | ((with_reducible first | apply done_end (tok Try.prog)); exact zT; exact zD; exact zXn)
        all_goals try clear tE
        rw [hl]; rfl
      · have hle : ¬ n ≤ c.t := of_decide_eq_false ‹decide (n ≤ c.t) = false›
        obtain ⟨k2, k3⟩ := hnext hle
        rw [hlev, if_neg hle] at hl
        refine ⟨([levOf c.s n m], (n + c.f - 1).tdiv c.f, 4 * c.f, k), by simp, ⟨hl, k2, by show k ≤ 8; omega, by simp only [List.length_cons, List.length_nil] at hlk ⊢; omega, d1, k3⟩, ?_⟩
        simp only [outA, outH, List.length_nil, List.length_cons, Nat.zero_add]
        (have tu0 : Pur _ := .vptr (cells_pur c); have tE := And.intro (@upd_upd AV) <| @upd_upd (Option Blk); refine kcan [1] (h6 := ?_)); clear tE
        exact ⟨⟨1, _, rfl, rfl, .cells (.purs (levFlat_pur [levOf c.s n m]) rfl)⟩, trivial⟩
    | cons l0 ls =>
      rw [show outA (l0 :: ls).length = .slice 0 0 (ls.length + 1) none 4 from rfl, show outH (l0 :: ls) = [some (.cells (levRows (l0 :: ls)).flatten 37)] from rfl]
      simp only [St.of, List.length_nil, List.length_cons, Nat.zero_add]
      simp only [List.length_cons] at hlk
      have hsn : (levRows (l0 :: ls)).flatten ++ (levOf c.s n m).cells = (levRows (l0 :: ls ++ [levOf c.s n m])).flatten := levFlat_snoc _ _
      have tE := And.intro (@upd_upd AV) <| And.intro (@upd_upd (Option Blk)) <| And.intro Cf.cells.eq_1 <| And.intro ty3 <| And.intro ty4 <| And.intro ty33 <| And.intro ty23 <| And.intro ty37 <| And.intro Try.results56 <| And.intro e1 <| And.intro e2 <| And.intro e3 <| And.intro e4 <| And.intro e5 <| levFlat_len; repeat' first | ((with_reducible first | apply w_seq | apply w_region | apply wl_nil | apply wr_nil | apply wr_nilA | apply wr_nilE | apply go_normal | apply go_ret | apply go_exit | apply blk_normal | apply blk_ret | apply blk_here | apply w_block | apply w_skip | apply w_exit | apply w_label)) | ((with_reducible first | apply blk_off); decide) | ((with_reducible first | apply wz (tok Try.prog) | apply wr_z (tok Try.prog)); exact zZ; decide) | ((with_reducible first | apply wzg (tok Try.prog) | apply wr_zg (tok Try.prog)); exact zU; exact zL; exact zU; exact zZ; decide) | ((with_reducible first | apply wr_v (tok Try.prog)); exact zZ; decide) | ((with_reducible first | apply wr_vg (tok Try.prog)); exact zU; exact zL; exact zU; exact zZ; decide) | ((with_reducible first | apply wr_xA (tok Try.prog) | apply wr_xS (tok Try.prog)); exact zI; decide) | ((with_reducible first | apply wr_xgA (tok Try.prog)); exact zU; exact zL; exact zU; exact zI; decide) | ((with_reducible first | apply wskip' | apply wr_skip); exact zU; exact zL; exact zU; decide) | ((with_reducible first | apply wskip0'); exact zU; exact zL; exact zU) | ((with_reducible first | apply w_alloc (tok Try.prog)); exact zT; decide) | ((with_reducible first | apply w_store (tok Try.prog)); exact zV; exact zV; exact zS) | ((with_reducible first | apply wcall' | apply wr_call); exact zV; exact zVs; exact zAs; (focus (with_unfolding_all first | exact pf89 _ (by omega))); decide) | ((with_reducible first | apply wcallg' | apply wr_callg); exact zU; exact zL; exact zU; exact zV; exact zVs; exact zAs; (focus (with_unfolding_all first | exact pf89 _ (by omega))); decide) | ((with_reducible first | apply w_ap | apply wr_ap); (focus (first | (intro _ ho _ hr _; (with_reducible apply ap_new (tok Try.prog) ho (hr := hr)); exact zT; exact zU; exact zT; exact zT; exact zU; exact zA; exact zV; exact zK; exact zM; exact zK; exact zK; decide) | (intro _ ho _ hr _; (with_reducible apply ap_own (tok Try.prog) ho (hr := hr)); exact zT; exact zU; exact zT; exact zT; exact zU; exact zV; exact zV; exact zH; exact zKo; exact zM; (focus (first | rfl | assumption)); exact zKo; exact zKo; decide))); decide) | ((with_reducible first | apply wp | apply wr_p); (focus (first | ((with_reducible first | apply pure_bs1 (tok Try.prog)); exact zT; exact zU; exact zT; exact zP; exact zR; exact zC; decide; decide; exact zU; exact zU))); decide) | ((with_reducible first | apply wpg | apply wr_pg); exact zU; exact zL; exact zU; (focus (first | ((with_reducible first | apply pure_bs1 (tok Try.prog)); exact zT; exact zU; exact zT; exact zP; exact zR; exact zC; decide; decide; exact zU; exact zU))); decide) | ((with_reducible first | apply wsplit | apply wr_split); exact zU; exact zL; constructor <;> intro _) | ((with_reducible first | apply w_ift'); exact zV; exact zU) | ((with_reducible first | apply w_iff'); exact zV; exact zU) | ((with_reducible first | apply w_if); exact zV; constructor <;> intro _) | ((with_reducible first | apply w_drawE mixed); (focus (decide +kernel))) | ((with_reducible apply w_ret); (repeat (with_reducible first | apply go_ret | apply blk_ret)); (with_reducible apply done_ret (tok Try.prog)); exact zT; exact zD; exact zX) | ((with_reducible first | apply done_end (tok Try.prog)); exact zT; exact zD; exact zXn)
      all_goals try clear tE
      · have hle : n ≤ c.t := of_decide_eq_true ‹decide (n ≤ c.t) = true›
        rw [hlev, if_pos hle] at hl
        refine W.ghost (g_freeze (d := 2) (id := 1) (off := 0) (len := ls.length + 1 + 1) (cap := none) (sz := 4) (cs := (levRows (l0 :: ls)).flatten ++ (levOf c.s n m).cells) (e := 37) rfl rfl (by rw [List.length_append, levFlat_len]; simp only [Lev.cells, List.length_cons, List.length_nil]; omega)) ?_
        have hch : chunk 4 (ls.length + 1 + 1) (List.drop 0 ((levRows (l0 :: ls)).flatten ++ (levOf c.s n m).cells)) = levRows (l0 :: ls ++ [levOf c.s n m]) := by
          rw [List.drop_zero, hsn]
          have := chunk_flatten (rows := levRows (l0 :: ls ++ [levOf c.s n m])) (sz := 4) levRows_row
          rw [levRows_len] at this
          simpa using this
        rw [hch, ← hl]
        have hpu : Pur (.view (levRows c.levs)) := .view (levRows_pur _)
        have tE := And.intro (@upd_upd AV) <| And.intro (@upd_upd (Option Blk)) <| And.intro Cf.cells.eq_1 <| And.intro ty33 <| Try.results56; repeat' first | ((with_reducible first | apply w_seq | apply w_region | apply wl_nil | apply wr_nil | apply wr_nilA | apply wr_nilE | apply go_normal | apply go_ret | apply go_exit | apply blk_normal | apply blk_ret | apply blk_here | apply w_block | apply w_skip | apply w_exit | apply w_label)) | ((with_reducible first | apply blk_off); decide) | ((with_reducible first | apply wz (tok Try.prog) | apply wr_z (tok Try.prog)); exact zZ; decide) | ((with_reducible first | apply wzg (tok Try.prog) | apply wr_zg (tok Try.prog)); exact zU; exact zL; exact zU; exact zZ; decide) | ((with_reducible first | apply wskip' | apply wr_skip); exact zU; exact zL; exact zU; decide) | ((with_reducible first | apply wskip0'); exact zU; exact zL; exact zU) | ((with_reducible first | apply w_alloc (tok Try.prog)); exact zT; decide) | ((with_reducible first | apply w_store (tok Try.prog)); exact zV; exact zV; exact zS) | ((with_reducible first | apply wsplit | apply wr_split); exact zU; exact zL; constructor <;> intro _) | ((with_reducible first | apply w_ift'); exact zV; exact zU) | ((with_reducible first | apply w_iff'); exact zV; exact zU) | ((with_reducible first | apply w_if); exact zV; constructor <;> intro _) | ((with_reducible first | apply w_draw0 mixed); (focus (decide +kernel))) | ((with_reducible apply w_ret); (repeat (with_reducible first | apply go_ret | apply blk_ret)); (with_reducible apply done_ret (tok Try.prog)); exact zT; exact zD; exact zX) | ((with_reducible first | apply done_end (tok Try.prog)); exact zT; exact zD; exact zXn)
        all_goals try clear tE
        rfl
      · have hle : ¬ n ≤ c.t := of_decide_eq_false ‹decide (n ≤ c.t) = false›
        obtain ⟨k2, k3⟩ := hnext hle
        rw [hlev, if_neg hle] at hl
        refine ⟨(l0 :: ls ++ [levOf c.s n m], (n + c.f - 1).tdiv c.f, 4 * c.f, k), by simp, ⟨by rw [hl]; simp, k2, by show k ≤ 8; omega, by simp only [List.length_cons, List.length_nil, List.length_append]; omega, d1, k3⟩, ?_⟩
        simp only [outA, outH, List.cons_append, List.length_nil, List.length_cons, List.length_append, Nat.zero_add]
        (have tu0 : Pur _ := .vptr (cells_pur c); have tE := And.intro (@upd_upd AV) <| @upd_upd (Option Blk); refine kcan [1] (h6 := ?_)); clear tE
        refine ⟨⟨1, _, rfl, rfl, .cells (.purs (fun x hx => ?_) hsn)⟩, trivial⟩
        rcases List.mem_append.1 hx with h | h
        · exact levFlat_pur _ x h
        · exact lev_pur (levOf c.s n m) x h
end Go.Proofs.Ytclldbeefbbdlaa
