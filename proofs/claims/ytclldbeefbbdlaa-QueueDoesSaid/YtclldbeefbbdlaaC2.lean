/- conf.numbers. -/
import Derived.Test.YtclldbeefbbdlaaC1
open Go Go.Lg
set_option linter.unusedSimpArgs false
set_option maxHeartbeats 4000000
namespace Go.Proofs.Ytclldbeefbbdlaa
/-- A configuration's nine numbers. -/
structure Cf where
  p : Int
  z : Int
  f : Int
  s : Int
  st : Int
  fr : Int
  cl : Int
  q : Int
  t : Int
def Cf.cells (c : Cf) : List AV := [.int .i64 c.p, .int .i64 c.z, .int .i64 c.f, .int .i64 c.s, .int .i64 c.st, .int .i64 c.fr, .int .i64 c.cl, .int .i64 c.q, .int .i64 c.t]
def Cf.spans (c : Cf) : List (Int × Int × Int) := [(c.p, 1, 64), (c.z, 1, 32), (c.f, 2, 8), (c.s, 1, 4), (c.st, 1, 64), (c.fr, 1, 8), (c.cl, 1, 4), (c.q, 1, 16), (c.t, 1, 16)]
def inB (x : Int × Int × Int) : Bool := decide (x.2.1 ≤ x.1 ∧ x.1 ≤ x.2.2)
def Cf.ok (c : Cf) : Bool := c.spans.all inB
def spanCells (l : List (Int × Int × Int)) : List AV := l.flatMap fun x => [.int .i64 x.1, .int .i64 x.2.1, .int .i64 x.2.2]
theorem span_at : ∀ (l : List (Int × Int × Int)) (i : Nat) (x : Int × Int × Int), l[i]? = some x → ((spanCells l).drop (i * 3)).take 3 = [.int .i64 x.1, .int .i64 x.2.1, .int .i64 x.2.2]
  | y :: l, 0, x, h => by simp at h; subst h; simp [spanCells]
  | y :: l, i + 1, x, h => by
    have := span_at l i x (by simpa using h)
    have e : (i + 1) * 3 = i * 3 + 1 + 1 + 1 := by omega
    rw [e]
    simpa [spanCells] using this
theorem cells_pur (c : Cf) : ∀ x, x ∈ c.cells → Pur x := by simp only [Cf.cells, pur_bool, pur_int, pur_str, pur_empty, pur_nilptr, pur_nilFunc, pur_nilIface, pur_any, pur_agg, pur_tuple, pur_vptr, pur_view, pur_iface, pur_func, tup, List.mem_cons, forall_eq_or_imp, List.not_mem_nil, false_implies, implies_true, and_self, forall_const, forall_eq]
theorem span_pur (l : List (Int × Int × Int)) : ∀ x, x ∈ spanCells l → Pur x := by
  intro x hx
  simp only [spanCells, List.mem_flatMap] at hx
  obtain ⟨y, _, hx⟩ := hx
  simp only [List.mem_cons, List.not_mem_nil, or_false] at hx
  rcases hx with rfl | rfl | rfl <;> exact .int _ _
theorem pf53 (c : Cf) : PF Try.prog 53 [.agg c.cells] (fun r => r = .bool c.ok) := by
  refine pf_of_w0 Try.func53 (c := _) rfl rfl (Nat.le_of_ble_eq_true rfl) (by simp only [Cf.cells, pur_bool, pur_int, pur_str, pur_empty, pur_nilptr, pur_nilFunc, pur_nilIface, pur_any, pur_agg, pur_tuple, pur_vptr, pur_view, pur_iface, pur_func, tup, List.mem_cons, forall_eq_or_imp, List.not_mem_nil, false_implies, implies_true, and_self, forall_const, forall_eq]) ?_
  rw [show Try.f53.ntmps = 42 from rfl]
  have tE := And.intro (@upd_upd AV) <| And.intro (@upd_upd (Option Blk)) <| And.intro Cf.cells.eq_1 <| And.intro ty3 <| And.intro ty4 <| And.intro ty23 <| And.intro ty137 <| And.intro ty138 <| Try.results53; repeat' first | ((with_reducible first | apply w_seq | apply w_region | apply wl_nil | apply wr_nil | apply wr_nilA | apply wr_nilE | apply go_normal | apply go_ret | apply go_exit | apply blk_normal | apply blk_ret | apply blk_here | apply w_block | apply w_skip | apply w_exit | apply w_label)) | ((with_reducible first | apply blk_off); decide) | ((with_reducible first | apply wz (tok Try.prog) | apply wr_z (tok Try.prog)); exact zZ; decide) | ((with_reducible first | apply wzg (tok Try.prog) | apply wr_zg (tok Try.prog)); exact zU; exact zL; exact zU; exact zZ; decide) | ((with_reducible first | apply wskip' | apply wr_skip); exact zU; exact zL; exact zU; decide) | ((with_reducible first | apply wskip0'); exact zU; exact zL; exact zU) | ((with_reducible first | apply w_alloc (tok Try.prog)); exact zT; decide) | ((with_reducible first | apply w_store (tok Try.prog)); exact zV; exact zV; exact zS) | ((with_reducible first | apply wsplit | apply wr_split); exact zU; exact zL; constructor <;> intro _) | ((with_reducible first | apply w_ift'); exact zV; exact zU) | ((with_reducible first | apply w_iff'); exact zV; exact zU) | ((with_reducible first | apply w_if); exact zV; constructor <;> intro _) | ((with_reducible first | apply w_draw0 mixed); (focus (decide +kernel))) | ((with_reducible apply w_ret); (repeat (with_reducible first | apply go_ret | apply blk_ret)); (with_reducible apply done_ret (tok Try.prog)); exact zT; exact zD; exact zX) | ((with_reducible first | apply done_end (tok Try.prog)); exact zT; exact zD; exact zXn)
  all_goals try clear tE
  refine w_loopA (S := Nat) (fun i => [.any, .vptr c.cells, .any, .any, .any, .any, .any, .any, .any, .any, .any, .any, .any, .any, .any, .any, .any, .any, .any, .any, .any, .any, .any, .any, .any, .any, .any, .any, .any, .any, .any, .any, .any, .any, .agg (spanCells c.spans), .int .i64 (i : Int), .any, .any, .any, .any, .any, .any]) (fun _ => []) [] (fun i => i ≤ 9 ∧ (c.spans.take i).all inB = true) (fun i => 9 - i) 0 ?_ ⟨by omega, rfl⟩ ?_
  · (have tE := And.intro (@upd_upd AV) <| And.intro (@upd_upd (Option Blk)) <| And.intro Cf.cells.eq_1 <| And.intro spanCells.eq_1 <| Cf.spans.eq_1; exact kcan [])
  · rintro i ⟨hi, hall⟩
    simp only [St.of, List.length_nil]
    rcases Nat.lt_or_ge i 9 with h | h
    · obtain ⟨x, hx⟩ : ∃ x, c.spans[i]? = some x := ⟨c.spans[i]'(by simpa [Cf.spans] using h), List.getElem?_eq_getElem _⟩
      have hrow := span_at c.spans i x hx
      have hlen : (i * 3 + 3 ≤ (spanCells c.spans).length) = True := by simp [spanCells, Cf.spans]; omega
      have h0 : (0 ≤ (i : Int)) = True := by simp
      have h1 : ((i : Int) < 9) = True := by simp; omega
      have h2 : ((i : Int) < ((9 : Nat) : Int)) = True := by simp; omega
      have hw : IntKind.i64.wrap ((i : Int) + 1) = ((i + 1 : Nat) : Int) := by rw [wrap64 (by omega) (by omega)]; rfl
      have tE := And.intro (@upd_upd AV) <| And.intro (@upd_upd (Option Blk)) <| And.intro ty3 <| And.intro ty4 <| And.intro ty23 <| And.intro ty137 <| And.intro ty138 <| And.intro Try.results53 <| And.intro hlen <| And.intro h0 <| And.intro h1 <| And.intro h2 <| And.intro hrow <| hw; repeat' first | ((with_reducible first | apply w_seq | apply w_region | apply wl_nil | apply wr_nil | apply wr_nilA | apply wr_nilE | apply go_normal | apply go_ret | apply go_exit | apply blk_normal | apply blk_ret | apply blk_here | apply w_block | apply w_skip | apply w_exit | apply w_label)) | ((with_reducible first | apply blk_off); decide) | ((with_reducible first | apply wz (tok Try.prog) | apply wr_z (tok Try.prog)); exact zZ; decide) | ((with_reducible first | apply wzg (tok Try.prog) | apply wr_zg (tok Try.prog)); exact zU; exact zL; exact zU; exact zZ; decide) | ((with_reducible first | apply wskip' | apply wr_skip); exact zU; exact zL; exact zU; decide) | ((with_reducible first | apply wskip0'); exact zU; exact zL; exact zU) | ((with_reducible first | apply w_alloc (tok Try.prog)); exact zT; decide) | ((with_reducible first | apply w_store (tok Try.prog)); exact zV; exact zV; exact zS) | ((with_reducible first | apply wcall' | apply wr_call); exact zV; exact zVs; exact zAs; (focus (with_unfolding_all first | exact pf85 _ _ _)); decide) | ((with_reducible first | apply wcallg' | apply wr_callg); exact zU; exact zL; exact zU; exact zV; exact zVs; exact zAs; (focus (with_unfolding_all first | exact pf85 _ _ _)); decide) | ((with_reducible first | apply wsplit | apply wr_split); exact zU; exact zL; constructor <;> intro _) | ((with_reducible first | apply w_ift'); exact zV; exact zU) | ((with_reducible first | apply w_iff'); exact zV; exact zU) | ((with_reducible first | apply w_if); exact zV; constructor <;> intro _) | ((with_reducible first | apply w_draw0 mixed); (focus (decide +kernel))) | ((with_reducible apply w_ret); (repeat (with_reducible first | apply go_ret | apply blk_ret)); (with_reducible apply done_ret (tok Try.prog)); exact zT; exact zD; exact zX) | ((with_reducible first | apply done_end (tok Try.prog)); exact zT; exact zD; exact zXn)
      all_goals try clear tE
      · have hb : inB x = false := by
          have h := ‹(!decide _) = true›
          rw [Bool.not_eq_true'] at h; exact h
        have : c.ok = false := by
          unfold Cf.ok
          rw [List.all_eq_false]
          exact ⟨x, List.mem_of_getElem? hx, by rw [hb]; simp⟩
        rw [this]; rfl
      · have hb : inB x = true := by
          have h := ‹(!decide _) = false›
          rw [Bool.not_eq_false'] at h; exact h
        refine ⟨i + 1, by omega, ⟨by omega, ?_⟩, ?_⟩
        · rw [List.take_add_one, hx, List.all_append, hall]; simp [hb]
        · (have tu0 : Pur _ := .vptr (cells_pur c); have tu1 : Pur _ := .agg (span_pur c.spans); have tE := And.intro (@upd_upd AV) <| @upd_upd (Option Blk); exact kcan [])
    · have e : i = 9 := by omega
      subst e
      have h1 : (((9 : Nat) : Int) < 9) = False := by simp
      have tE := And.intro (@upd_upd AV) <| And.intro (@upd_upd (Option Blk)) <| And.intro ty3 <| And.intro ty4 <| And.intro ty23 <| And.intro ty137 <| And.intro ty138 <| And.intro Try.results53 <| h1; repeat' first | ((with_reducible first | apply w_seq | apply w_region | apply wl_nil | apply wr_nil | apply wr_nilA | apply wr_nilE | apply go_normal | apply go_ret | apply go_exit | apply blk_normal | apply blk_ret | apply blk_here | apply w_block | apply w_skip | apply w_exit | apply w_label)) | ((with_reducible first | apply blk_off); decide) | ((with_reducible first | apply wz (tok Try.prog) | apply wr_z (tok Try.prog)); exact zZ; decide) | ((with_reducible first | apply wzg (tok Try.prog) | apply wr_zg (tok Try.prog)); exact zU; exact zL; exact zU; exact zZ; decide) | ((with_reducible first | apply wskip' | apply wr_skip); exact zU; exact zL; exact zU; decide) | ((with_reducible first | apply wskip0'); exact zU; exact zL; exact zU) | ((with_reducible first | apply w_alloc (tok Try.prog)); exact zT; decide) | ((with_reducible first | apply w_store (tok Try.prog)); exact zV; exact zV; exact zS) | ((with_reducible first | apply wsplit | apply wr_split); exact zU; exact zL; constructor <;> intro _) | ((with_reducible first | apply w_ift'); exact zV; exact zU) | ((with_reducible first | apply w_iff'); exact zV; exact zU) | ((with_reducible first | apply w_if); exact zV; constructor <;> intro _) | ((with_reducible first | apply w_draw0 mixed); (focus (decide +kernel))) | ((with_reducible apply w_ret); (repeat (with_reducible first | apply go_ret | apply blk_ret)); (with_reducible apply done_ret (tok Try.prog)); exact zT; exact zD; exact zX) | ((with_reducible first | apply done_end (tok Try.prog)); exact zT; exact zD; exact zXn)
      all_goals try clear tE
      have : c.ok = true := by
        have e : c.spans.take 9 = c.spans := List.take_of_length_le (by simp [Cf.spans])
        rw [e] at hall; exact hall
      rw [this]; rfl
end Go.Proofs.Ytclldbeefbbdlaa
