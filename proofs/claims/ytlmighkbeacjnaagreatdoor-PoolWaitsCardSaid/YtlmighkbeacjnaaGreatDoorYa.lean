/- What the small functions of geo and conf compute. conf.numbers. geo.Leaves, a level, the reference's numbers. One level's shape. The reference's levels. The range function over a configuration's levels. conf.Levels. conf's and the reference's small functions over the levels. The widths, and equality of levels. -/
import Derived.Test.YtlmighkbeacjnaaGreatDoorLm5
import Derived.Test.YtlmighkbeacjnaaGreatDoorLm4
import Derived.Test.YtlmighkbeacjnaaGreatDoorTy
import Derived.Test.YtlmighkbeacjnaaGreatDoorLm3

open Go Go.Lg
set_option linter.unusedSimpArgs false
set_option maxHeartbeats 4000000
namespace Go.Proofs.YtlmighkbeacjnaaGreatDoor
theorem tkC1 : TOK Tryz.prog (tyOf Tryz.prog) := tok Tryz.prog
theorem mixed : Tryz.prog.follows .mixedOrders = true := by kernel_rfl
theorem pf158 (x : Int) : PF Tryz.prog 158 [.int .i64 x] (fun r => r = .int .i64 (if x < 1 ∨ 6 < x then 2 else 0)) := by
  refine pf_of_w0 Tryz.func158 (c := _) rfl rfl (Nat.le_of_ble_eq_true rfl) (by simp only [pur_bool, pur_int, pur_str, pur_empty, pur_nilptr, pur_nilFunc, pur_nilIface, pur_any, pur_agg, pur_tuple, pur_vptr, pur_view, pur_iface, pur_func, tup, List.mem_cons, forall_eq_or_imp, List.not_mem_nil, false_implies, implies_true, and_self, forall_const, forall_eq]) ?_
  rw [show Tryz.f158.ntmps = 9 from rfl]
  have tE := aI uU <| aI ty3 <| aI ty4 <| Tryz.results158; repeat' first | (refine Red.h ?_) | ((with_reducible first | apply blk_off); decide) | ((with_reducible first | apply wz tkC1 | apply wr_z tkC1); exact zZ; decide) | ((with_reducible first | apply wzg tkC1 | apply wr_zg tkC1); exact zU; exact zL; exact zU; exact zZ; decide) | ((with_reducible first | apply wskip' | apply wr_skip); exact zU; exact zL; exact zU; decide) | ((with_reducible first | apply wskip0'); exact zU; exact zL; exact zU) | ((with_reducible first | apply w_alloc tkC1); exact zT; decide) | ((with_reducible first | apply w_store tkC1); exact zV; exact zV; exact zS) | ((with_reducible first | apply wsplit | apply wr_split); exact zU; exact zL; constructor <;> intro _) | ((with_reducible first | apply w_ift'); exact zV; exact zU) | ((with_reducible first | apply w_iff'); exact zV; exact zU) | ((with_reducible first | apply w_if); exact zV; constructor <;> intro _) | ((with_reducible first | apply w_draw0 mixed); (focus (decide +kernel))) | ((with_reducible apply w_ret); (repeat refine Red.h ?_); (with_reducible apply done_ret tkC1); exact zT; exact zD; exact zX) | ((with_reducible first | apply done_end tkC1); exact zT; exact zD; exact zXn)
  all_goals try clear tE
  all_goals first | (simp_all [tup]; done) | (simp_all [tup]; omega)
theorem pf149 (a b c : Int) : PF Tryz.prog 149 [.agg [.int .i64 a, .int .i64 b, .int .i64 c]] (fun r => r = .bool (decide (b ≤ a ∧ a ≤ c))) := by
  refine pf_of_w0 Tryz.func149 (c := _) rfl rfl (Nat.le_of_ble_eq_true rfl) (by simp only [pur_bool, pur_int, pur_str, pur_empty, pur_nilptr, pur_nilFunc, pur_nilIface, pur_any, pur_agg, pur_tuple, pur_vptr, pur_view, pur_iface, pur_func, tup, List.mem_cons, forall_eq_or_imp, List.not_mem_nil, false_implies, implies_true, and_self, forall_const, forall_eq]) ?_
  rw [show Tryz.f149.ntmps = 15 from rfl]
  have tE := aI uU <| aI ty3 <| aI ty4 <| aI ty207 <| Tryz.results149; repeat' first | (refine Red.h ?_) | ((with_reducible first | apply blk_off); decide) | ((with_reducible first | apply wz tkC1 | apply wr_z tkC1); exact zZ; decide) | ((with_reducible first | apply wzg tkC1 | apply wr_zg tkC1); exact zU; exact zL; exact zU; exact zZ; decide) | ((with_reducible first | apply wskip' | apply wr_skip); exact zU; exact zL; exact zU; decide) | ((with_reducible first | apply wskip0'); exact zU; exact zL; exact zU) | ((with_reducible first | apply w_alloc tkC1); exact zT; decide) | ((with_reducible first | apply w_store tkC1); exact zV; exact zV; exact zS) | ((with_reducible first | apply wsplit | apply wr_split); exact zU; exact zL; constructor <;> intro _) | ((with_reducible first | apply w_ift'); exact zV; exact zU) | ((with_reducible first | apply w_iff'); exact zV; exact zU) | ((with_reducible first | apply w_if); exact zV; constructor <;> intro _) | ((with_reducible first | apply w_draw0 mixed); (focus (decide +kernel))) | ((with_reducible apply w_ret); (repeat refine Red.h ?_); (with_reducible apply done_ret tkC1); exact zT; exact zD; exact zX) | ((with_reducible first | apply done_end tkC1); exact zT; exact zD; exact zXn)
  all_goals try clear tE
  all_goals first | (simp_all [tup]; done) | (simp_all [tup]; omega)
end Go.Proofs.YtlmighkbeacjnaaGreatDoor


open Go Go.Lg
set_option linter.unusedSimpArgs false
set_option maxHeartbeats 4000000
namespace Go.Proofs.YtlmighkbeacjnaaGreatDoor
theorem tkC2 : TOK Tryz.prog (tyOf Tryz.prog) := tok Tryz.prog
/-- A configuration's nine numbers. -/
structure Cf where
  p : Int
  z : Int
  f : Int
  s : Int
  st : Int
  fr : Int
  cl : Int
  q : Int
  t : Int
def Cf.cells (c : Cf) : List AV := [.int .i64 c.p, .int .i64 c.z, .int .i64 c.f, .int .i64 c.s, .int .i64 c.st, .int .i64 c.fr, .int .i64 c.cl, .int .i64 c.q, .int .i64 c.t]
def Cf.spans (c : Cf) : List (Int × Int × Int) := [(c.p, 1, 64), (c.z, 1, 32), (c.f, 2, 8), (c.s, 1, 4), (c.st, 1, 64), (c.fr, 1, 8), (c.cl, 1, 4), (c.q, 1, 16), (c.t, 1, 16)]
def inB (x : Int × Int × Int) : Bool := decide (x.2.1 ≤ x.1 ∧ x.1 ≤ x.2.2)
def Cf.ok (c : Cf) : Bool := c.spans.all inB
def spanCells (l : List (Int × Int × Int)) : List AV := l.flatMap fun x => [.int .i64 x.1, .int .i64 x.2.1, .int .i64 x.2.2]
theorem span_at : ∀ (l : List (Int × Int × Int)) (i : Nat) (x : Int × Int × Int), l[i]? = some x → ((spanCells l).drop (i * 3)).take 3 = [.int .i64 x.1, .int .i64 x.2.1, .int .i64 x.2.2]
  | y :: l, 0, x, h => by simp at h; subst h; simp [spanCells]
  | y :: l, i + 1, x, h => by
    have := span_at l i x (by simpa using h)
    have e : (i + 1) * 3 = i * 3 + 1 + 1 + 1 := by omega
    rw [e]
    simpa [spanCells] using this
theorem cells_pur (c : Cf) : ∀ x, x ∈ c.cells → Pur x := by simp only [Cf.cells, pur_bool, pur_int, pur_str, pur_empty, pur_nilptr, pur_nilFunc, pur_nilIface, pur_any, pur_agg, pur_tuple, pur_vptr, pur_view, pur_iface, pur_func, tup, List.mem_cons, forall_eq_or_imp, List.not_mem_nil, false_implies, implies_true, and_self, forall_const, forall_eq]
theorem span_pur (l : List (Int × Int × Int)) : ∀ x, x ∈ spanCells l → Pur x := by
  intro x hx
  simp only [spanCells, List.mem_flatMap] at hx
  obtain ⟨y, _, hx⟩ := hx
  simp only [List.mem_cons, List.not_mem_nil, or_false] at hx
  rcases hx with rfl | rfl | rfl <;> exact .int _ _
theorem pf130 (c : Cf) : PF Tryz.prog 130 [.agg c.cells] (fun r => r = .bool c.ok) := by
  refine pf_of_w0 Tryz.func130 (c := _) rfl rfl (Nat.le_of_ble_eq_true rfl) (by simp only [Cf.cells, pur_bool, pur_int, pur_str, pur_empty, pur_nilptr, pur_nilFunc, pur_nilIface, pur_any, pur_agg, pur_tuple, pur_vptr, pur_view, pur_iface, pur_func, tup, List.mem_cons, forall_eq_or_imp, List.not_mem_nil, false_implies, implies_true, and_self, forall_const, forall_eq]) ?_
  rw [show Tryz.f130.ntmps = 42 from rfl]
  have tE := aI uU <| aI Cf.cells.eq_1 <| aI ty3 <| aI ty4 <| aI ty23 <| aI ty207 <| aI ty208 <| Tryz.results130; repeat' first | (refine Red.h ?_) | ((with_reducible first | apply wz tkC2 | apply wr_z tkC2); exact zZ; decide) | ((with_reducible first | apply w_alloc tkC2); exact zT; decide) | ((with_reducible first | apply w_store tkC2); exact zV; exact zV; exact zS) | fail
  all_goals try clear tE
  refine w_loopA (S := Nat) (fun i => [.any, .vptr c.cells, .any, .any, .any, .any, .any, .any, .any, .any, .any, .any, .any, .any, .any, .any, .any, .any, .any, .any, .any, .any, .any, .any, .any, .any, .any, .any, .any, .any, .any, .any, .any, .any, .agg (spanCells c.spans), .int .i64 (i : Int), .any, .any, .any, .any, .any, .any]) (fun _ => []) [] (fun i => i ≤ 9 ∧ (c.spans.take i).all inB = true) (fun i => 9 - i) 0 ?_ ⟨by omega, rfl⟩ ?_
  · (have tE := aI uU <| aI Cf.cells.eq_1 <| aI spanCells.eq_1 <| Cf.spans.eq_1; exact kcan [])
  · rintro i ⟨hi, hall⟩
    simp only [St.of, List.length_nil]
    rcases Nat.lt_or_ge i 9 with h | h
    · obtain ⟨x, hx⟩ : ∃ x, c.spans[i]? = some x := ⟨c.spans[i]'(by simpa [Cf.spans] using h), List.getElem?_eq_getElem _⟩
      have hrow := span_at c.spans i x hx
      have hlen : (i * 3 + 3 ≤ (spanCells c.spans).length) = True := by simp [spanCells, Cf.spans]; omega
      have h0 : (0 ≤ (i : Int)) = True := by simp
      have h1 : ((i : Int) < 9) = True := by simp; omega
      have h2 : ((i : Int) < ((9 : Nat) : Int)) = True := by simp; omega
      have hw : IntKind.i64.wrap ((i : Int) + 1) = ((i + 1 : Nat) : Int) := by rw [wrap64 (by omega) (by omega)]; rfl
      have tE := aI uU <| aI ty3 <| aI ty4 <| aI ty23 <| aI ty207 <| aI ty208 <| aI Tryz.results130 <| aI hlen <| aI h0 <| aI h1 <| aI h2 <| aI hrow <| hw; repeat' first | (refine Red.h ?_) | ((with_reducible first | apply wz tkC2 | apply wr_z tkC2); exact zZ; decide) | ((with_reducible first | apply w_alloc tkC2); exact zT; decide) | ((with_reducible first | apply w_store tkC2); exact zV; exact zV; exact zS) | ((with_reducible first | apply wcall' | apply wr_call); exact zV; exact zVs; exact zAs; (focus (with_unfolding_all first | exact pf149 _ _ _)); decide) | ((with_reducible first | apply w_ift'); exact zV; exact zU) | ((with_reducible first | apply w_if); exact zV; constructor <;> intro _) | ((with_reducible apply w_ret); (repeat refine Red.h ?_); (with_reducible apply done_ret tkC2); exact zT; exact zD; exact zX) | fail
      all_goals try clear tE
      · have hb : inB x = false := by
          have h := ‹(!decide _) = true›
          rw [Bool.not_eq_true'] at h; exact h
        have : c.ok = false := by
          unfold Cf.ok
          rw [List.all_eq_false]
          exact ⟨x, List.mem_of_getElem? hx, by rw [hb]; simp⟩
        rw [this]; rfl
      · have hb : inB x = true := by
          have h := ‹(!decide _) = false›
          rw [Bool.not_eq_false'] at h; exact h
        refine ⟨i + 1, by omega, ⟨by omega, ?_⟩, ?_⟩
        · rw [List.take_add_one, hx, List.all_append, hall]; simp [hb]
        · (have tu0 : Pur _ := .vptr (cells_pur c); have tu1 : Pur _ := .agg (span_pur c.spans); have tE := uU; exact kcan [])
    · have e : i = 9 := by omega
      subst e
      have h1 : (((9 : Nat) : Int) < 9) = False := by simp
      have tE := aI uU <| aI ty3 <| aI ty4 <| aI ty23 <| aI ty207 <| aI ty208 <| aI Tryz.results130 <| h1; repeat' first | (refine Red.h ?_) | ((with_reducible first | apply wz tkC2 | apply wr_z tkC2); exact zZ; decide) | ((with_reducible first | apply w_iff'); exact zV; exact zU) | ((with_reducible apply w_ret); (repeat refine Red.h ?_); (with_reducible apply done_ret tkC2); exact zT; exact zD; exact zX) | fail
      all_goals try clear tE
      have : c.ok = true := by
        have e : c.spans.take 9 = c.spans := List.take_of_length_le (by simp [Cf.spans])
        rw [e] at hall; exact hall
      rw [this]; rfl
end Go.Proofs.YtlmighkbeacjnaaGreatDoor


open Go Go.Lg
set_option linter.unusedSimpArgs false
set_option maxHeartbeats 2000000
namespace Go.Proofs.YtlmighkbeacjnaaGreatDoor
theorem tkC3 : TOK Tryz.prog (tyOf Tryz.prog) := tok Tryz.prog
theorem pf157 (x : Int) : PF Tryz.prog 157 [.int .i64 x, .empty] (fun r => r = .int .i64 (if x < 1 ∨ 6 < x then 2 else 0)) := by
  refine pf_of_w0 Tryz.func157 (c := _) rfl rfl (Nat.le_of_ble_eq_true rfl) (by simp only [pur_bool, pur_int, pur_str, pur_empty, pur_nilptr, pur_nilFunc, pur_nilIface, pur_any, pur_agg, pur_tuple, pur_vptr, pur_view, pur_iface, pur_func, tup, List.mem_cons, forall_eq_or_imp, List.not_mem_nil, false_implies, implies_true, and_self, forall_const, forall_eq]) ?_
  rw [show Tryz.f157.ntmps = 28 from rfl]
  by_cases hx : x < 1 ∨ 6 < x
  · have e : (if x < 1 ∨ 6 < x then (2 : Int) else 0) = 2 := if_pos hx
    have tE := aI uU <| aI ty3 <| aI ty4 <| aI ty72 <| aI ty34 <| aI Tryz.results157 <| e; repeat' first | (refine Red.h ?_) | ((with_reducible first | apply wz tkC3 | apply wr_z tkC3); exact zZ; decide) | ((with_reducible first | apply wcall' | apply wr_call); exact zV; exact zVs; exact zAs; (focus (with_unfolding_all first | exact pf158 _)); decide) | ((with_reducible first | apply w_ift'); exact zV; exact zU) | ((with_reducible apply w_ret); (repeat refine Red.h ?_); (with_reducible apply done_ret tkC3); exact zT; exact zD; exact zX) | fail
    all_goals try clear tE
    all_goals simp_all [tup]
  · have e : (if x < 1 ∨ 6 < x then (2 : Int) else 0) = 0 := if_neg hx
    have tE := aI uU <| aI ty3 <| aI ty4 <| aI ty72 <| aI ty34 <| aI Tryz.results157 <| e; repeat' first | (refine Red.h ?_) | ((with_reducible first | apply wz tkC3 | apply wr_z tkC3); exact zZ; decide) | ((with_reducible first | apply wcall' | apply wr_call); exact zV; exact zVs; exact zAs; (focus (with_unfolding_all first | exact pf158 _)); decide) | ((with_reducible first | apply w_iff'); exact zV; exact zU) | fail
    all_goals try clear tE
    refine w_once ?_
    have tE := aI uU <| aI ty3 <| aI ty4 <| aI ty72 <| aI ty34 <| aI Tryz.results157 <| e; repeat' first | (refine Red.h ?_) | ((with_reducible first | apply wz tkC3 | apply wr_z tkC3); exact zZ; decide) | ((with_reducible first | apply w_iff'); exact zV; exact zU) | ((with_reducible apply w_ret); (repeat refine Red.h ?_); (with_reducible apply done_ret tkC3); exact zT; exact zD; exact zX) | fail
    all_goals try clear tE
    all_goals simp_all [tup]
def lv (x : Int) : Int := if x < 1 ∨ 6 < x then 0 else if x = 1 then 2 else if x = 2 then 4 else if x = 3 then 8 else if x = 4 then 16 else if x = 5 then 32 else 64
def le_ (x : Int) : Int := if x < 1 ∨ 6 < x then 2 else 0
theorem pf156 (x : Int) : PF Tryz.prog 156 [.int .i64 x] (fun r => r = .tuple [.int .i64 (lv x), .int .i64 (le_ x)]) := by
  refine pf_of_w0 Tryz.func156 (c := _) rfl rfl (Nat.le_of_ble_eq_true rfl) (by simp only [pur_bool, pur_int, pur_str, pur_empty, pur_nilptr, pur_nilFunc, pur_nilIface, pur_any, pur_agg, pur_tuple, pur_vptr, pur_view, pur_iface, pur_func, tup, List.mem_cons, forall_eq_or_imp, List.not_mem_nil, false_implies, implies_true, and_self, forall_const, forall_eq]) ?_
  rw [show Tryz.f156.ntmps = 12 from rfl]
  by_cases hx : x < 1 ∨ 6 < x
  · have e : (if x < 1 ∨ 6 < x then (2 : Int) else 0) = 2 := if_pos hx
    have e2 : lv x = 0 := if_pos hx
    have e3 : le_ x = 2 := if_pos hx
    have tE := aI uU <| aI ty3 <| aI ty4 <| aI ty72 <| aI ty34 <| aI Tryz.results156 <| e; repeat' first | (refine Red.h ?_) | ((with_reducible first | apply wz tkC3 | apply wr_z tkC3); exact zZ; decide) | ((with_reducible first | apply wcall' | apply wr_call); exact zV; exact zVs; exact zAs; (focus (with_unfolding_all first | exact pf157 _)); decide) | ((with_reducible first | apply w_ift'); exact zV; exact zU) | ((with_reducible apply w_ret); (repeat refine Red.h ?_); (with_reducible apply done_ret tkC3); exact zT; exact zD; exact zX) | fail
    all_goals try clear tE
    rw [e2, e3]; rfl
  · have e : (if x < 1 ∨ 6 < x then (2 : Int) else 0) = 0 := if_neg hx
    have e3 : le_ x = 0 := if_neg hx
    have hx0 : ¬ x < 0 := by omega
    have tE := aI uU <| aI ty3 <| aI ty4 <| aI ty72 <| aI ty34 <| aI Tryz.results156 <| aI e <| hx0; repeat' first | (refine Red.h ?_) | ((with_reducible first | apply wz tkC3 | apply wr_z tkC3); exact zZ; decide) | ((with_reducible first | apply wcall' | apply wr_call); exact zV; exact zVs; exact zAs; (focus (with_unfolding_all first | exact pf157 _)); decide) | ((with_reducible first | apply w_iff'); exact zV; exact zU) | ((with_reducible apply w_ret); (repeat refine Red.h ?_); (with_reducible apply done_ret tkC3); exact zT; exact zD; exact zX) | fail
    all_goals try clear tE
    rw [e3]
    have hc : x = 1 ∨ x = 2 ∨ x = 3 ∨ x = 4 ∨ x = 5 ∨ x = 6 := by omega
    rcases hc with rfl | rfl | rfl | rfl | rfl | rfl <;> rfl
/-- The height of a row of 'n' leaves. -/
def hi (n : Int) : Int := if n ≤ 2 then 1 else if n ≤ 4 then 2 else if n ≤ 8 then 3 else if n ≤ 16 then 4 else if n ≤ 32 then 5 else if n ≤ 64 then 6 else 7
theorem hi_eq {n : Int} {h : Nat} (h1 : 1 ≤ h) (h2 : h ≤ 7) (hl : ∀ k : Nat, 1 ≤ k → k < h → lv k < n) (hu : h = 7 ∨ n ≤ lv h) : hi n = h := by
  have hc : h = 1 ∨ h = 2 ∨ h = 3 ∨ h = 4 ∨ h = 5 ∨ h = 6 ∨ h = 7 := by omega
  have l1 : lv (1 : Nat) = 2 := rfl
  have l2 : lv (2 : Nat) = 4 := rfl
  have l3 : lv (3 : Nat) = 8 := rfl
  have l4 : lv (4 : Nat) = 16 := rfl
  have l5 : lv (5 : Nat) = 32 := rfl
  have l6 : lv (6 : Nat) = 64 := rfl
  unfold hi
  have g1 := hl 1; have g2 := hl 2; have g3 := hl 3; have g4 := hl 4; have g5 := hl 5; have g6 := hl 6
  rw [l1] at g1; rw [l2] at g2; rw [l3] at g3; rw [l4] at g4; rw [l5] at g5; rw [l6] at g6
  rcases hc with rfl | rfl | rfl | rfl | rfl | rfl | rfl
  · rw [l1] at hu; rw [if_pos (by omega)]; rfl
  · rw [l2] at hu; rw [if_neg (by omega), if_pos (by omega)]; rfl
  · rw [l3] at hu; rw [if_neg (by omega), if_neg (by omega), if_pos (by omega)]; rfl
  · rw [l4] at hu; rw [if_neg (by omega), if_neg (by omega), if_neg (by omega), if_pos (by omega)]; rfl
  · rw [l5] at hu; rw [if_neg (by omega), if_neg (by omega), if_neg (by omega), if_neg (by omega), if_pos (by omega)]; rfl
  · rw [l6] at hu; rw [if_neg (by omega), if_neg (by omega), if_neg (by omega), if_neg (by omega), if_neg (by omega), if_pos (by omega)]; rfl
  · rw [if_neg (by omega), if_neg (by omega), if_neg (by omega), if_neg (by omega), if_neg (by omega), if_neg (by omega)]; rfl
end Go.Proofs.YtlmighkbeacjnaaGreatDoor


open Go Go.Lg
set_option linter.unusedSimpArgs false
set_option maxHeartbeats 2000000
namespace Go.Proofs.YtlmighkbeacjnaaGreatDoor
theorem tkC4 : TOK Tryz.prog (tyOf Tryz.prog) := tok Tryz.prog
structure Lev where
  n : Int
  m : Int
  h : Int
  w : Int
def Lev.cells (l : Lev) : List AV := [.int .i64 l.n, .int .i64 l.m, .int .i64 l.h, .int .i64 l.w]
theorem lev_pur (l : Lev) : ∀ x, x ∈ l.cells → Pur x := by simp only [Lev.cells, pur_bool, pur_int, pur_str, pur_empty, pur_nilptr, pur_nilFunc, pur_nilIface, pur_any, pur_agg, pur_tuple, pur_vptr, pur_view, pur_iface, pur_func, tup, List.mem_cons, forall_eq_or_imp, List.not_mem_nil, false_implies, implies_true, and_self, forall_const, forall_eq]
def W64 (x : Int) : Int := IntKind.i64.wrap x
def levOf (s n m : Int) : Lev := ⟨n, m, hi n, W64 (W64 (s * W64 (8 + m)) + 64)⟩
theorem pf151 (c : Cf) (n m : Int) : PF Tryz.prog 151 [.agg c.cells, .int .i64 n, .int .i64 m] (fun r => r = .agg (levOf c.s n m).cells) := by
  refine pf_of_w0 Tryz.func151 (c := _) rfl rfl (Nat.le_of_ble_eq_true rfl) (by simp only [Cf.cells, pur_bool, pur_int, pur_str, pur_empty, pur_nilptr, pur_nilFunc, pur_nilIface, pur_any, pur_agg, pur_tuple, pur_vptr, pur_view, pur_iface, pur_func, tup, List.mem_cons, forall_eq_or_imp, List.not_mem_nil, false_implies, implies_true, and_self, forall_const, forall_eq]) ?_
  rw [show Tryz.f151.ntmps = 39 from rfl]
  have tE := aI uU <| aI Cf.cells.eq_1 <| aI ty3 <| aI ty4 <| aI ty34 <| aI ty23 <| aI ty187 <| Tryz.results151; repeat' first | (refine Red.h ?_) | ((with_reducible first | apply wz tkC4 | apply wr_z tkC4); exact zZ; decide) | ((with_reducible first | apply w_alloc tkC4); exact zT; decide) | ((with_reducible first | apply wcall' | apply wr_call); exact zV; exact zVs; exact zAs; (focus (with_unfolding_all first | exact pf156 _)); decide) | fail
  all_goals try clear tE
  refine w_loopA (S := Nat) (fun h => [.any, .int .i64 n, .int .i64 m, .vptr c.cells, .any, .any, .ptr 0 0, .int .i64 (h : Int), .int .i64 (lv h), .int .i64 (le_ h), .any, .any, .any, .any, .any, .any, .any, .any, .any, .any, .any, .any, .any, .any, .any, .any, .any, .any, .any, .any, .any, .any, .any, .any, .any, .any, .any, .any, .any]) (fun _ => [some (.cells [.int .i64 0, .int .i64 0, .int .i64 0, .int .i64 0] 187)]) [] (fun h => 1 ≤ h ∧ h ≤ 7 ∧ ∀ k : Nat, 1 ≤ k → k < h → lv k < n) (fun h => 7 - h) 1 ?_ ⟨by omega, by omega, fun k h1 h2 => by omega⟩ ?_
  · (have tE := aI uU <| Cf.cells.eq_1; exact kcan [0])
  · rintro h ⟨h1, h7, hl⟩
    simp only [St.of, List.length_nil, List.length_cons]
    by_cases e7 : h = 7
    · subst e7
      have hh : hi n = ((7 : Nat) : Int) := hi_eq h1 h7 hl (.inl rfl)
      have e9 : le_ ((7 : Nat) : Int) = 2 := rfl
      have tE := aI uU <| aI Cf.cells.eq_1 <| aI ty3 <| aI ty4 <| aI ty34 <| aI ty23 <| aI ty187 <| aI Tryz.results151 <| e9; repeat' first | (refine Red.h ?_) | ((with_reducible first | apply wz tkC4 | apply wr_z tkC4); exact zZ; decide) | ((with_reducible first | apply wskip' | apply wr_skip); exact zU; exact zL; exact zU; decide) | ((with_reducible first | apply w_store tkC4); exact zV; exact zV; exact zS) | ((with_reducible first | apply w_iff'); exact zV; exact zU) | ((with_reducible apply w_ret); (repeat refine Red.h ?_); (with_reducible apply done_ret tkC4); exact zT; exact zD; exact zX) | fail
      all_goals try clear tE
      rw [show levOf c.s n m = ⟨n, m, ((7 : Nat) : Int), W64 (W64 (c.s * W64 (8 + m)) + 64)⟩ from by simp only [levOf, hh]]
      rfl
    · have e9 : le_ (h : Int) = 0 := if_neg (by omega)
      have hw : IntKind.i64.wrap ((h : Int) + 1) = ((h + 1 : Nat) : Int) := by rw [wrap64 (by omega) (by omega)]; rfl
      have tE := aI uU <| aI Cf.cells.eq_1 <| aI ty3 <| aI ty4 <| aI ty34 <| aI ty23 <| aI ty187 <| aI Tryz.results151 <| aI e9 <| hw; repeat' first | (refine Red.h ?_) | ((with_reducible first | apply wz tkC4 | apply wr_z tkC4); exact zZ; decide) | ((with_reducible first | apply wzg tkC4 | apply wr_zg tkC4); exact zU; exact zL; exact zU; exact zZ; decide) | ((with_reducible first | apply w_store tkC4); exact zV; exact zV; exact zS) | ((with_reducible first | apply wcall' | apply wr_call); exact zV; exact zVs; exact zAs; (focus (with_unfolding_all first | exact pf156 _)); decide) | ((with_reducible first | apply w_if); exact zV; constructor <;> intro _) | ((with_reducible apply w_ret); (repeat refine Red.h ?_); (with_reducible apply done_ret tkC4); exact zT; exact zD; exact zX) | fail
      all_goals try clear tE
      · have hlt : lv (h : Int) < n := of_decide_eq_true ‹decide (lv (h : Int) < n) = true›
        refine ⟨h + 1, by omega, ⟨by omega, by omega, fun k k1 k2 => ?_⟩, ?_⟩
        · by_cases ek : k = h
          · subst ek; exact hlt
          · exact hl k k1 (by omega)
        · (have tu0 : Pur _ := .vptr (cells_pur c); have tE := uU; exact kcan [0])
      · have hge : ¬ lv (h : Int) < n := of_decide_eq_false ‹decide (lv (h : Int) < n) = false›
        have hh : hi n = (h : Int) := hi_eq h1 h7 hl (.inr (by omega))
        rw [show levOf c.s n m = ⟨n, m, (h : Int), W64 (W64 (c.s * W64 (8 + m)) + 64)⟩ from by simp only [levOf, hh]]
        rfl
/-- Powers of two. -/
def p2 : Nat → Int
  | 0 => 1
  | i + 1 => 2 * p2 i
end Go.Proofs.YtlmighkbeacjnaaGreatDoor


open Go Go.Lg
set_option linter.unusedSimpArgs false
set_option maxHeartbeats 2000000
namespace Go.Proofs.YtlmighkbeacjnaaGreatDoor
/-- The levels of a tree with 'n' leaves at the bottom: 'f' to each, 't' at most on top. -/
def levsF (s f t : Int) : Nat → Int → Int → List Lev
  | 0, _, _ => []
  | k + 1, n, m => levOf s n m :: (if n ≤ t then [] else levsF s f t k ((n + f - 1).tdiv f) (4 * f))
def Cf.levs (c : Cf) : List Lev := levsF c.s c.f c.t 8 c.p c.z
def levRows (l : List Lev) : List (List AV) := l.map Lev.cells
theorem levRows_len (l : List Lev) : (levRows l).length = l.length := by simp [levRows]
theorem levRows_row {l : List Lev} : ∀ r, r ∈ levRows l → r.length = 4 := by
  intro r hr
  simp only [levRows, List.mem_map] at hr
  obtain ⟨x, _, rfl⟩ := hr; rfl
theorem levRows_pur (l : List Lev) : ∀ r, r ∈ levRows l → ∀ x, x ∈ r → Pur x := by
  intro r hr
  simp only [levRows, List.mem_map] at hr
  obtain ⟨x, _, rfl⟩ := hr; exact lev_pur x
theorem levFlat_len (l : List Lev) : (levRows l).flatten.length = l.length * 4 := by
  induction l with
  | nil => rfl
  | cons x l ih => simp only [levRows, List.map_cons, List.flatten_cons, List.length_append, List.length_cons]; simp only [levRows] at ih; rw [ih]; simp [Lev.cells]; omega
theorem levFlat_snoc (l : List Lev) (x : Lev) : (levRows l).flatten ++ x.cells = (levRows (l ++ [x])).flatten := by simp [levRows]
theorem div_bound {n f : Int} (hn : 1 ≤ n) (h64 : n ≤ 64) (hf : 2 ≤ f ∧ f ≤ 8) : 1 ≤ (n + f - 1).tdiv f ∧ 2 * (n + f - 1).tdiv f ≤ n + 1 := by
  have hc : f = 2 ∨ f = 3 ∨ f = 4 ∨ f = 5 ∨ f = 6 ∨ f = 7 ∨ f = 8 := by omega
  rw [Int.tdiv_eq_ediv_of_nonneg (by omega)]
  rcases hc with rfl | rfl | rfl | rfl | rfl | rfl | rfl <;> omega
end Go.Proofs.YtlmighkbeacjnaaGreatDoor


open Go Go.Lg
set_option linter.unusedSimpArgs false
set_option maxHeartbeats 2000000
namespace Go.Proofs.YtlmighkbeacjnaaGreatDoor
theorem tkC6 : TOK Tryz.prog (tyOf Tryz.prog) := tok Tryz.prog
theorem pf131 (c : Cf) : PF Tryz.prog 131 [.agg c.cells] (fun r => r = .func (.func 150) [] [.vptr c.cells]) := by
  refine pf_of_w0 Tryz.func131 (c := _) rfl rfl (Nat.le_of_ble_eq_true rfl) (by simp only [Cf.cells, pur_bool, pur_int, pur_str, pur_empty, pur_nilptr, pur_nilFunc, pur_nilIface, pur_any, pur_agg, pur_tuple, pur_vptr, pur_view, pur_iface, pur_func, tup, List.mem_cons, forall_eq_or_imp, List.not_mem_nil, false_implies, implies_true, and_self, forall_const, forall_eq]) ?_
  rw [show Tryz.f131.ntmps = 4 from rfl]
  have tE := aI uU <| aI Cf.cells.eq_1 <| aI ty23 <| Tryz.results131; repeat' first | (refine Red.h ?_) | ((with_reducible first | apply wz tkC6 | apply wr_z tkC6); exact zZ; decide) | ((with_reducible apply w_ret); (repeat refine Red.h ?_); (with_reducible apply done_ret tkC6); exact zT; exact zD; exact zX) | fail
  all_goals try clear tE
  rfl
theorem levsF_len (s f t : Int) : ∀ (k : Nat) (n m : Int), (levsF s f t k n m).length ≤ k
  | 0, _, _ => Nat.le_refl _
  | k + 1, n, m => by
    have := levsF_len s f t k ((n + f - 1).tdiv f) (4 * f)
    unfold levsF
    split
    · simp
    · simp only [List.length_cons]; omega
theorem ac150 (c : Cf) (hc : c.ok = true) (id k : Nat) (H0 : Heap) (J : List Lev → Heap → Nat → Prop) (hJ : ∀ l H n n', J l H n → n ≤ n' → J l H n')
    (hround : ∀ pre x H n, (∃ rest, c.levs = pre ++ x :: rest) → J pre H n → YC Tryz.prog id [.agg (Lev.cells x)] H n (fun b H' n' => b = true ∧ n ≤ n' ∧ J (pre ++ [x]) H' n'))
    (h0 : J [] H0 k) (hfr : H0 k = none) : AC Tryz.prog 150 [.yieldf id, .vptr c.cells] H0 k (fun r H n => r = .ret (.tuple []) ∧ ∃ H', J c.levs H' n ∧ H' k = none ∧ ∀ i, i ≠ k → H i = H' i) := by
  have hb : (1 ≤ c.p ∧ c.p ≤ 64) ∧ (1 ≤ c.z ∧ c.z ≤ 32) ∧ (2 ≤ c.f ∧ c.f ≤ 8) ∧ (1 ≤ c.s ∧ c.s ≤ 4) ∧ (1 ≤ c.t ∧ c.t ≤ 16) := by
    simp [Cf.ok, Cf.spans, inB] at hc; omega
  obtain ⟨hp, hz, hf, hs', ht⟩ := hb
  have ehc : Cf.cells c = [.int .i64 c.p, .int .i64 c.z, .int .i64 c.f, .int .i64 c.s, .int .i64 c.st, .int .i64 c.fr, .int .i64 c.cl, .int .i64 c.q, .int .i64 c.t] := rfl
  refine ac_of_wd Tryz.func150 (c := _) rfl (Nat.le_of_ble_eq_true rfl) ?_
  rw [show Tryz.f150.ntmps = 34 from rfl]
  have tE := aI uU <| aI Cf.cells.eq_1 <| aI ty3 <| aI ty4 <| aI ty23 <| ty187; repeat' first | (refine Red.h ?_) | ((with_reducible first | apply wz tkC6 | apply wr_z tkC6); exact zZ; decide) | ((with_reducible first | apply w_alloc tkC6); exact zT; decide) | ((with_reducible first | apply w_store tkC6); exact zV; exact zV; exact zS) | ((with_reducible first | apply wcall' | apply wr_call); exact zV; exact zVs; exact zAs; (focus (with_unfolding_all first | exact pf151 c _ _)); decide) | fail
  all_goals try clear tE
  refine w_loop (fun kk σ => ∃ pre n m h, c.levs = pre ++ levsF c.s c.f c.t kk n m ∧ 2 ≤ kk ∧ kk ≤ 8 ∧ 1 ≤ n ∧ n ≤ p2 (kk - 2) ∧ J pre h σ.n ∧ h k = none ∧ σ.tm 0 = .yieldf id ∧ σ.tm 1 = .vptr c.cells ∧ σ.tm 3 = .ptr k 0 ∧ σ.h = upd h k (some (.cells (levOf c.s n m).cells 187)) ∧ σ.df = []) 8 ⟨[], c.p, c.z, H0, rfl, by decide, by decide, hp.1, hp.2, hJ _ _ _ _ h0 (Nat.le_succ _), hfr, rfl, rfl, rfl, ?_, rfl⟩ ?_
  · rfl
  · rintro kk ⟨tm, H, nn, df⟩ ⟨pre, n, m, h, hl', hk, hk8, hn, hnk, hJh, hhk, t0, t1, t3, rfl, rfl⟩
    simp only at t0 t1 t3 hJh
    have hn64 : n ≤ 64 := by
      have hcc : kk = 2 ∨ kk = 3 ∨ kk = 4 ∨ kk = 5 ∨ kk = 6 ∨ kk = 7 ∨ kk = 8 := by omega
      rcases hcc with rfl | rfl | rfl | rfl | rfl | rfl | rfl <;> simp [p2] at hnk <;> omega
    obtain ⟨d1, d2⟩ := div_bound hn hn64 hf
    have e1 : IntKind.i64.wrap (n + c.f) = n + c.f := wrap64 (by omega) (by omega)
    have e2 : IntKind.i64.wrap (n + c.f - 1) = n + c.f - 1 := wrap64 (by omega) (by omega)
    have e3 : IntKind.i64.wrap ((n + c.f - 1).tdiv c.f) = (n + c.f - 1).tdiv c.f := wrap64 (by omega) (by omega)
    have e4 : IntKind.i64.wrap (4 * c.f) = 4 * c.f := wrap64 (by omega) (by omega)
    have e5 : (c.f = 0) = False := by simp; omega
    obtain ⟨kk, rfl⟩ : ∃ j, kk = j + 1 := ⟨kk - 1, by omega⟩
    have hlev : levsF c.s c.f c.t (kk + 1) n m = levOf c.s n m :: (if n ≤ c.t then [] else levsF c.s c.f c.t kk ((n + c.f - 1).tdiv c.f) (4 * c.f)) := rfl
    have hnext : ¬ n ≤ c.t → 2 ≤ kk ∧ (n + c.f - 1).tdiv c.f ≤ p2 (kk - 2) := fun h => by
      obtain ⟨j, rfl⟩ : ∃ j, kk = j + 2 := by
        have : kk ≠ 1 := by rintro rfl; simp [p2] at hnk; omega
        exact ⟨kk - 2, by omega⟩
      have e : p2 (j + 2 + 1 - 2) = 2 * p2 j := rfl
      rw [e] at hnk
      exact ⟨by omega, by show _ ≤ p2 j; omega⟩
    have hcl : (levOf c.s n m).cells = [.int .i64 n, .int .i64 m, .int .i64 (hi n), .int .i64 (W64 (W64 (c.s * W64 (8 + m)) + 64))] := rfl
    rw [hcl]
    have tE := aI uU <| aI Cf.cells.eq_1 <| aI ty3 <| aI ty4 <| aI ty23 <| aI ty187 <| aI t0 <| aI t1 <| aI t3 <| aI e1 <| aI e2 <| aI e3 <| aI e4 <| e5; repeat' first | (refine Red.h ?_) | ((with_reducible first | apply wz tkC6 | apply wr_z tkC6); exact zZ; decide) | fail
    all_goals try clear tE
    have hy := fun b0 => yc_beside (bl := b0) hhk (hround pre (levOf c.s n m) h nn ⟨_, by rw [hl', hlev]⟩ hJh)
    rw [hcl] at hy
    refine wl_yield (by simp only [evo, t0, sp_cons, sp_nil, upd_b, Nat.reduceBEq, cond_true, cond_false, args0_zero, args0_succ, args0_nil]) (by simp only [evs, evo, sp_cons, sp_nil, upd_b, Nat.reduceBEq, cond_true, cond_false, args0_zero, args0_succ, args0_nil]) (hy _) (by decide) ?_
    rintro b' H' n' ⟨h2, hh2, rfl, rfl, hnn, hJ2⟩
    have tE := aI uU <| aI Cf.cells.eq_1 <| aI ty3 <| aI ty4 <| aI ty23 <| aI ty187 <| aI t0 <| aI t1 <| aI t3 <| aI e1 <| aI e2 <| aI e3 <| aI e4 <| e5; repeat' first | (refine Red.h ?_) | ((with_reducible first | apply wz tkC6 | apply wr_z tkC6); exact zZ; decide) | ((with_reducible first | apply wzg tkC6 | apply wr_zg tkC6); exact zU; exact zL; exact zU; exact zZ; decide) | ((with_reducible first | apply wr_v tkC6); exact zZ; decide) | ((with_reducible first | apply wr_xB tkC6); exact zU; exact zZ; decide) | ((with_reducible first | apply wr_storeS tkC6); exact zV; exact zV; exact zS) | ((with_reducible first | apply wcall' | apply wr_call); exact zV; exact zVs; exact zAs; (focus (with_unfolding_all first | exact pf151 c _ _)); decide) | ((with_reducible first | apply w_if); exact zV; constructor <;> intro _) | ((with_reducible first | apply w_drawS 14 mixed); (focus (decide +kernel))) | fail
    all_goals try clear tE
    · have hgt : ¬ n ≤ c.t := by have := of_decide_eq_true ‹decide (n > c.t) = true›; omega
      obtain ⟨k2, k3⟩ := hnext hgt
      refine ⟨kk, by omega, pre ++ [levOf c.s n m], (n + c.f - 1).tdiv c.f, 4 * c.f, h2, by rw [hl', hlev, if_neg hgt]; simp, k2, by omega, d1, k3, hJ2, hh2, by simp only [sp_cons, sp_nil, upd_b, Nat.reduceBEq, cond_true, cond_false, args0_zero, args0_succ, args0_nil, t0], by simp only [sp_cons, sp_nil, upd_b, Nat.reduceBEq, cond_true, cond_false, args0_zero, args0_succ, args0_nil, t1], by simp only [sp_cons, sp_nil, upd_b, Nat.reduceBEq, cond_true, cond_false, args0_zero, args0_succ, args0_nil, t3], rfl, rfl⟩
    · have hle : n ≤ c.t := by have := of_decide_eq_false ‹decide (n > c.t) = false›; omega
      rw [hlev, if_pos hle] at hl'
      exact ⟨trivial, .tuple [], resv_of (xs := []) tkC6 rfl, rfl, h2, by rw [hl']; exact hJ2, hh2, fun i hi => upd_ne _ _ hi⟩
end Go.Proofs.YtlmighkbeacjnaaGreatDoor


open Go Go.Lg
set_option linter.unusedSimpArgs false
set_option maxHeartbeats 2000000
namespace Go.Proofs.YtlmighkbeacjnaaGreatDoor
theorem tkC7 : TOK Tryz.prog (tyOf Tryz.prog) := tok Tryz.prog
def H3 (v : AV) (lb : LoopB) : Heap := upd (upd (upd noHeap 0 (some (.cells [v] 133))) 1 (some .deferred)) 2 (some (.loop lb))
/-- The memory of the loop that gathers the levels. -/
def gath (lb : LoopB) (l : List Lev) (H : Heap) (n : Nat) : Prop := 3 ≤ n ∧ match l with
  | [] => H = H3 .empty lb
  | l => ∃ o, 3 ≤ o ∧ o < n ∧ H = upd (H3 (.slice o 0 l.length none 4) lb) o (some (.cells (levRows l).flatten 187))
def levL (c : Cf) : List AV := [.any, .vptr c.cells, .ptr 0 0, .int .i64 0, .any, .any, .any, .any, .any, .func (.func 150) [] [.vptr c.cells], .any, .any, .any, .any, .any, .any, .any, .any, .any]
theorem levfn_pur (c : Cf) : Pur (.func (.func 150) [] [.vptr c.cells]) := .func (fun x hx => by cases hx) (fun x hx => by
  rcases List.mem_singleton.1 hx with rfl; exact .vptr (cells_pur c))
theorem heap_eq1 {n : Nat} (hn : 3 ≤ n) (X0 D L A L2 B X L3 : Option Blk) :
    upd (upd (upd (upd (upd (upd (upd (upd (upd noHeap 0 X0) 1 D) 2 L) n A) 2 L2) (n + 1) B) 0 X) n none) 2 L3 = upd (upd (upd (upd noHeap 0 X) 1 D) 2 L3) (n + 1) B := by
  funext i
  simp only [upd, noHeap]
  by_cases h0 : i = 0
  · subst h0; simp [show ¬ 0 = n by omega, show ¬ 0 = n + 1 by omega]
  · by_cases h1 : i = 1
    · subst h1; simp [show ¬ 1 = n by omega, show ¬ 1 = n + 1 by omega]
    · by_cases h2 : i = 2
      · subst h2; simp [show ¬ 2 = n by omega, show ¬ 2 = n + 1 by omega]
      · by_cases h3 : i = n + 1
        · subst h3; simp [h0, h2]
        · by_cases h4 : i = n
          · subst h4; simp [h0, h1, h2]
          · simp [h0, h1, h2, h3, h4]
theorem heap_eq2 {n o : Nat} (hn : 3 ≤ n) (ho : 3 ≤ o) (hon : o < n) (X0 D L C A L2 B X L3 : Option Blk) :
    upd (upd (upd (upd (upd (upd (upd (upd (upd (upd (upd noHeap 0 X0) 1 D) 2 L) o C) n A) 2 L2) o none) (n + 1) B) 0 X) n none) 2 L3 = upd (upd (upd (upd noHeap 0 X) 1 D) 2 L3) (n + 1) B := by
  funext i
  simp only [upd, noHeap]
  by_cases h0 : i = 0
  · subst h0; simp [show ¬ 0 = n by omega, show ¬ 0 = n + 1 by omega, show ¬ 0 = o by omega]
  · by_cases h1 : i = 1
    · subst h1; simp [show ¬ 1 = n by omega, show ¬ 1 = n + 1 by omega, show ¬ 1 = o by omega]
    · by_cases h2 : i = 2
      · subst h2; simp [show ¬ 2 = n by omega, show ¬ 2 = n + 1 by omega, show ¬ 2 = o by omega]
      · by_cases h3 : i = n + 1
        · subst h3; simp [h0, h2]
        · by_cases h4 : i = n
          · subst h4; simp [h0, h1, h2]
          · by_cases h5 : i = o
            · subst h5; simp [h0, h1, h2, h3, h4]
            · simp [h0, h1, h2, h3, h4, h5]
theorem pf84_bad (c : Cf) (hc : c.ok = false) : PF Tryz.prog 84 [.agg c.cells] (fun r => r = .tuple [.empty, .int .i64 8]) := by
  refine pf_of_w0 Tryz.func84 (c := _) rfl rfl (Nat.le_of_ble_eq_true rfl) (by simp only [Cf.cells, pur_bool, pur_int, pur_str, pur_empty, pur_nilptr, pur_nilFunc, pur_nilIface, pur_any, pur_agg, pur_tuple, pur_vptr, pur_view, pur_iface, pur_func, tup, List.mem_cons, forall_eq_or_imp, List.not_mem_nil, false_implies, implies_true, and_self, forall_const, forall_eq]) ?_
  rw [show Tryz.f84.ntmps = 19 from rfl]
  have ehc : Cf.cells c = [.int .i64 c.p, .int .i64 c.z, .int .i64 c.f, .int .i64 c.s, .int .i64 c.st, .int .i64 c.fr, .int .i64 c.cl, .int .i64 c.q, .int .i64 c.t] := rfl
  have tE := aI uU <| aI Cf.cells.eq_1 <| aI ty3 <| aI ty4 <| aI ty34 <| aI ty133 <| aI ty23 <| aI ty187 <| aI Tryz.results84 <| hc; repeat' first | (refine Red.h ?_) | ((with_reducible first | apply wz tkC7 | apply wr_z tkC7); exact zZ; decide) | ((with_reducible first | apply w_alloc tkC7); exact zT; decide) | ((with_reducible first | apply w_store tkC7); exact zV; exact zV; exact zS) | ((with_reducible first | apply wcall' | apply wr_call); exact zV; exact zVs; exact zAs; (focus (with_unfolding_all first | exact pf130 c)); decide) | ((with_reducible first | apply w_ift'); exact zV; exact zU) | ((with_reducible apply w_ret); (repeat refine Red.h ?_); (with_reducible apply done_ret tkC7); exact zT; exact zD; exact zX) | fail
  all_goals try clear tE
  rfl
theorem pf84_ok (c : Cf) (hc : c.ok = true) : PF Tryz.prog 84 [.agg c.cells] (fun r => r = if c.levs.length ≤ 4 then .tuple [.view (levRows c.levs), .int .i64 0] else .tuple [.empty, .int .i64 8]) := by
  refine pf_of_wd0 Tryz.func84 (c := _) rfl rfl (Nat.le_of_ble_eq_true rfl) (by simp only [Cf.cells, pur_bool, pur_int, pur_str, pur_empty, pur_nilptr, pur_nilFunc, pur_nilIface, pur_any, pur_agg, pur_tuple, pur_vptr, pur_view, pur_iface, pur_func, tup, List.mem_cons, forall_eq_or_imp, List.not_mem_nil, false_implies, implies_true, and_self, forall_const, forall_eq]) ?_
  rw [show Tryz.f84.ntmps = 19 from rfl]
  have tE := aI uU <| aI Cf.cells.eq_1 <| aI ty3 <| aI ty4 <| aI ty34 <| aI ty133 <| aI ty23 <| aI ty187 <| aI Tryz.results84 <| hc; repeat' first | (refine Red.h ?_) | ((with_reducible first | apply wz tkC7 | apply wr_z tkC7); exact zZ; decide) | ((with_reducible first | apply w_alloc tkC7); exact zT; decide) | ((with_reducible first | apply wcall' | apply wr_call); exact zV; exact zVs; exact zAs; (focus (with_unfolding_all first | exact pf130 c | exact pf131 c)); decide) | ((with_reducible first | apply w_iff'); exact zV; exact zU) | fail
  all_goals try clear tE
  refine w_cut (levL c) [some (.cells [.empty] 133)] [] ?_ ?_
  · (have tu0 : Pur _ := .vptr (cells_pur c); have tu1 : Pur _ := levfn_pur c; have tE := aI uU <| levL.eq_1; exact kcan [0])
  refine w_rangeL (hs := [some (.cells [.empty] 133)]) (g := 150) (first := []) (cap := [.vptr c.cells]) (R := fun r H n => r = .ret (.tuple []) ∧ ∃ lb : LoopB, lb.state = .ready ∧ lb.pending = none ∧ ∃ H', gath lb c.levs H' n ∧ H' 3 = none ∧ ∀ i, i ≠ 3 → H i = H' i) rfl ⟨_, Tryz.func150, rfl, rfl⟩ ?_ ?_
  · intro lb hlb
    have hst : lb.state = .ready := by rw [hlb]
    have hpe : lb.pending = none := by rw [hlb]
    have hH3 : hl ([some (.cells [.empty] 133)] ++ [some .deferred, some (.loop lb)]) = H3 .empty lb := by
      funext i
      match i with
      | 0 | 1 | 2 => rfl
      | i + 3 => rfl
    rw [hH3]
    refine (ac150 c hc 2 3 _ (gath lb) ?_ ?_ ⟨Nat.le_refl _, rfl⟩ rfl).mono ?_
    · rintro l H n n' ⟨h1, h2⟩ hn
      refine ⟨by omega, ?_⟩
      cases l with
      | nil => exact h2
      | cons a l => obtain ⟨o, h3, h4, h5⟩ := h2; exact ⟨o, h3, by omega, h5⟩
    · rintro pre x H n ⟨rest, hrest⟩ ⟨hn, hg⟩
      have e0 : ((0 : Nat) == n) = false := by rw [beq_eq_false_iff_ne]; omega
      have e0' : ((0 : Nat) == n + 1) = false := by rw [beq_eq_false_iff_ne]; omega
      have e2 : ((2 : Nat) == n) = false := by rw [beq_eq_false_iff_ne]; omega
      have f2 : (n == (2 : Nat)) = false := by rw [beq_eq_false_iff_ne]; omega
      have f1 : (n == n + 1) = false := by rw [beq_eq_false_iff_ne]; omega
      cases pre with
      | nil =>
        have hg : H = H3 .empty lb := hg
        subst hg
        refine yc_of_w (lb := lb) rfl hst (by rw [hlb]; rfl) (by rw [hlb]; intro t ht; have ht : t ∈ [10] := ht; rw [List.mem_singleton] at ht; subst ht; show 10 < 19; decide) ?_
        subst hlb
        show W _ _ _ _ _ _ ⟨upd (args0 (levL c)) 10 (.agg x.cells), H3 .empty _, n, []⟩
        simp only [levL, Lev.cells]
        clear hst hpe
        have tE := aI uU <| aI ty3 <| aI ty4 <| aI ty34 <| aI ty133 <| aI ty23 <| aI ty187 <| aI H3.eq_1 <| aI noHeap.eq_1 <| aI e0 <| aI e0' <| e2; repeat' first | (refine Red.h ?_) | ((with_reducible first | apply w_alloc tkC7); exact zT; decide) | ((with_reducible first | apply w_store tkC7); exact zV; exact zV; exact zS) | fail
        all_goals try clear tE
        refine ⟨rfl, rfl, by simp only [H3, upd_b, e2, cond_false, Nat.reduceBEq, cond_true, beq_self_eq_true], ?_⟩
        refine w_postg ?_
        simp only [H3]
        have tE := aI uU <| aI ty3 <| aI ty4 <| aI ty34 <| aI ty133 <| aI ty23 <| aI ty187 <| aI noHeap.eq_1 <| aI e0 <| aI e0' <| aI e2 <| aI f2 <| f1; repeat' first | (refine Red.h ?_) | ((with_reducible first | apply wz tkC7 | apply wr_z tkC7); exact zZ; decide) | ((with_reducible first | apply w_store tkC7); exact zV; exact zV; exact zS) | ((with_reducible first | apply w_ap | apply wr_ap); (focus (first | (intro _ ho _ hr _; (with_reducible apply ap_new tkC7 ho (hr := hr)); exact zT; exact zU; exact zT; exact zT; exact zU; exact zA; exact zV; exact zK; exact zM; exact zK; exact zK; decide) | (intro _ ho _ hr _; (with_reducible apply ap_own tkC7 ho (hr := hr)); exact zT; exact zU; exact zT; exact zT; exact zU; exact zV; exact zV; exact zH; exact zKo; exact zM; (focus (first | rfl | assumption)); exact zKo; exact zKo; decide))); decide) | ((with_reducible first | apply wp | apply wr_p); (focus (first | ((with_reducible first | apply pure_bs1 tkC7); exact zT; exact zU; exact zT; exact zP; exact zR; exact zC; decide; decide; exact zU; exact zU))); decide) | fail
        all_goals try clear tE
        refine ⟨fun _ h => by (cases h), _, gM (g_kill n), rfl, ?_, rfl, by show n ≤ n + 1 + 1; omega, by show 3 ≤ n + 1 + 1; omega, n + 1, by omega, by show n + 1 < n + 1 + 1; omega, ?_⟩
        · simp only [upd_b, e2, e0, f2, show ((2 : Nat) == n + 1) = false from by rw [beq_eq_false_iff_ne]; omega, Nat.reduceBEq, beq_self_eq_true, cond_true, cond_false]
        · exact heap_eq1 hn _ _ _ _ _ _ _ _
      | cons p0 pre =>
        have hpl : pre.length ≤ 8 := by
          have := levsF_len c.s c.f c.t 8 c.p c.z
          have h8 : c.levs.length ≤ 8 := this
          rw [hrest] at h8; simp at h8; omega
        obtain ⟨o, ho, hon, hg⟩ := hg
        subst hg
        have o0 : ((0 : Nat) == o) = false := by rw [beq_eq_false_iff_ne]; omega
        have o2 : ((2 : Nat) == o) = false := by rw [beq_eq_false_iff_ne]; omega
        have on : (n == o) = false := by rw [beq_eq_false_iff_ne]; omega
        have no : (o == n) = false := by rw [beq_eq_false_iff_ne]; omega
        have o2' : (o == (2 : Nat)) = false := by rw [beq_eq_false_iff_ne]; omega
        have hsn : (levRows (p0 :: pre)).flatten ++ x.cells = (levRows (p0 :: pre ++ [x])).flatten := levFlat_snoc _ _
        refine yc_of_w (lb := lb) (by rw [upd_ne _ _ (by omega)]; rfl) hst (by rw [hlb]; rfl) (by rw [hlb]; intro t ht; have ht : t ∈ [10] := ht; rw [List.mem_singleton] at ht; subst ht; show 10 < 19; decide) ?_
        subst hlb
        show W _ _ _ _ _ _ ⟨upd (args0 (levL c)) 10 (.agg x.cells), upd (H3 _ _) o _, n, []⟩
        simp only [levL, Lev.cells, List.length_cons]
        clear hst hpe
        have tE := aI uU <| aI ty3 <| aI ty4 <| aI ty34 <| aI ty133 <| aI ty23 <| aI ty187 <| aI H3.eq_1 <| aI noHeap.eq_1 <| aI e0 <| aI e0' <| aI e2 <| aI o0 <| aI o2 <| aI on <| no; repeat' first | (refine Red.h ?_) | ((with_reducible first | apply w_alloc tkC7); exact zT; decide) | ((with_reducible first | apply w_store tkC7); exact zV; exact zV; exact zS) | fail
        all_goals try clear tE
        refine ⟨rfl, rfl, by simp only [H3, upd_b, e2, o2, cond_false, Nat.reduceBEq, cond_true, beq_self_eq_true], ?_⟩
        refine w_postg ?_
        simp only [H3]
        have tE := aI uU <| aI ty3 <| aI ty4 <| aI ty34 <| aI ty133 <| aI ty23 <| aI ty187 <| aI noHeap.eq_1 <| aI e0 <| aI e0' <| aI e2 <| aI f2 <| aI f1 <| aI o0 <| aI o2 <| aI on <| aI no <| aI o2' <| levFlat_len; repeat' first | (refine Red.h ?_) | ((with_reducible first | apply wz tkC7 | apply wr_z tkC7); exact zZ; decide) | ((with_reducible first | apply w_store tkC7); exact zV; exact zV; exact zS) | ((with_reducible first | apply w_ap | apply wr_ap); (focus (first | (intro _ ho _ hr _; (with_reducible apply ap_new tkC7 ho (hr := hr)); exact zT; exact zU; exact zT; exact zT; exact zU; exact zA; exact zV; exact zK; exact zM; exact zK; exact zK; decide) | (intro _ ho _ hr _; (with_reducible apply ap_own tkC7 ho (hr := hr)); exact zT; exact zU; exact zT; exact zT; exact zU; exact zV; exact zV; exact zH; exact zKo; exact zM; (focus (first | rfl | assumption)); exact zKo; exact zKo; decide))); decide) | ((with_reducible first | apply wp | apply wr_p); (focus (first | ((with_reducible first | apply pure_bs1 tkC7); exact zT; exact zU; exact zT; exact zP; exact zR; exact zC; decide; decide; exact zU; exact zU))); decide) | fail
        all_goals try clear tE
        refine ⟨fun _ h => by (cases h), _, gM (g_kill n), rfl, ?_, rfl, by show n ≤ n + 1 + 1; omega, by show 3 ≤ n + 1 + 1; omega, n + 1, by omega, by show n + 1 < n + 1 + 1; omega, ?_⟩
        · simp only [upd_b, e2, e0, f2, o2, show ((2 : Nat) == n + 1) = false from by rw [beq_eq_false_iff_ne]; omega, Nat.reduceBEq, beq_self_eq_true, cond_true, cond_false]
        · refine (heap_eq2 hn ho hon _ _ _ _ _ _ _ _ _).trans ?_
          have e : (p0 :: pre ++ [x]).length = pre.length + 1 + 1 := by simp
          rw [← hsn, e]; rfl
    · rintro r H n ⟨h1, h', h2, h3, h4⟩
      exact ⟨h1, lb, hst, hpe, h', h2, h3, h4⟩
  · rintro r H n ⟨h1, lb, hst, hpe, H', hg, h3n, hH⟩
    obtain ⟨l0, ls, hls⟩ : ∃ l0 ls, c.levs = l0 :: ls := ⟨_, _, rfl⟩
    rw [hls] at hg
    obtain ⟨hn, o, ho, hon, hg⟩ := hg
    have ho3 : o ≠ 3 := by rintro rfl; rw [hg, upd_same] at h3n; cases h3n
    have H0 : H 0 = some (.cells [.slice o 0 (l0 :: ls).length none 4] 133) := by rw [hH 0 (by decide), hg, upd_ne _ _ (by omega)]; rfl
    have H1 : H 1 = some .deferred := by rw [hH 1 (by decide), hg, upd_ne _ _ (by omega)]; rfl
    have H2 : H 2 = some (.loop lb) := by rw [hH 2 (by decide), hg, upd_ne _ _ (by omega)]; rfl
    have Ho : H o = some (.cells (levRows (l0 :: ls)).flatten 187) := by rw [hH o ho3, hg, upd_same]
    refine ⟨.tuple [], lb, h1, H2, by rw [hst]; decide, ?_⟩
    rw [hpe]
    have o0 : (o == (0 : Nat)) = false := by rw [beq_eq_false_iff_ne]; omega
    have o2 : (o == (2 : Nat)) = false := by rw [beq_eq_false_iff_ne]; omega
    simp only [levL, List.length_cons, List.length_nil, Nat.zero_add] at H0 ⊢
    have tE := aI uU <| aI ty3 <| aI ty4 <| aI ty34 <| aI ty133 <| aI ty23 <| aI ty187 <| aI H0 <| aI H1 <| H2; repeat' first | (refine Red.h ?_) | ((with_reducible first | apply wz tkC7 | apply wr_z tkC7); exact zZ; decide) | ((with_reducible first | apply w_store tkC7); exact zV; exact zV; exact zS) | ((with_reducible first | apply w_if); exact zV; constructor <;> intro _) | fail
    all_goals try clear tE
    · have hgt : (4 : Int) < ((ls.length + 1 : Nat) : Int) := of_decide_eq_true ‹decide (((ls.length + 1 : Nat) : Int) > 4) = true›
      refine w_ret (go_ret (doneD_ret (xs := [.empty, .int .i64 8]) tkC7 Tryz.results84 ⟨by simp only [sp_cons, sp_nil, upd_b, Nat.reduceBEq, cond_true, cond_false, args0_zero, args0_succ, args0_nil, H1], trivial⟩ ?_ (by simp only [pur_bool, pur_int, pur_str, pur_empty, pur_nilptr, pur_nilFunc, pur_nilIface, pur_any, pur_agg, pur_tuple, pur_vptr, pur_view, pur_iface, pur_func, tup, List.mem_cons, forall_eq_or_imp, List.not_mem_nil, false_implies, implies_true, and_self, forall_const, forall_eq]) ?_))
      · simp only [resA, resOne, killAll, pv, pvx, pvIndexAddr, pvIndex, pvOwn, evp, List.replicate_succ, List.replicate_zero, List.flatten_cons, List.flatten_nil, List.append_nil, List.cons_append, List.nil_append, buildA, placesA, fillA, wr, known, cellsA, List.set_cons_zero, List.set_cons_succ, and_self, Nat.reduceSub, List.length_set, and_true, List.all_cons, List.all_nil, scalA, Bool.and_true, Bool.and_self, evo, evs, cval, Option.bind_some, Option.map_some, binv, intop, pvPick, pvUn, pvConv, pvExtract, fieldOf, pvField, pvFieldAddr, pvLoad, pvNil, loadA, partA, isAggD, pvIface, isIface, pvLen, lenA, pvCall, noYieldB, List.drop_succ_cons, List.drop_zero, List.take_succ_cons, List.take_zero, List.getElem?_cons_succ, List.getElem?_cons_zero, List.getElem?_toArray, List.length_cons, List.length_nil, Bool.false_eq_true, Nat.reduceAdd, Nat.reduceLeDiff, Nat.zero_add, Nat.reduceEqDiff, Nat.one_ne_zero, Int.reduceEq, Int.reduceLT, Int.reduceLE, Int.reduceToNat, Nat.reduceMul, Nat.reduceLT, hl_zero, hl_succ, hl_nil, sp_cons, sp_nil, upd_b, Nat.reduceBEq, cond_true, cond_false, args0_zero, args0_succ, args0_nil, ↓reduceIte, ty133, H1]
      · show _ = _
        rw [if_neg (by rw [hls]; simp only [List.length_cons]; omega)]; rfl
    · have hle : ¬ (4 : Int) < ((ls.length + 1 : Nat) : Int) := of_decide_eq_false ‹decide (((ls.length + 1 : Nat) : Int) > 4) = false›
      refine W.ghost (g_freeze_cell (id := 0) (j := 0) (id2 := o) (off := 0) (len := ls.length + 1) (cap := none) (sz := 4) (cs := [.slice o 0 (ls.length + 1) none 4]) (cs2 := (levRows (l0 :: ls)).flatten) (e := 133) (e2 := 187) (by omega) (by simp only [sp_cons, sp_nil, upd_b, Nat.reduceBEq, cond_true, cond_false, args0_zero, args0_succ, args0_nil]) rfl (by simp only [sp_cons, sp_nil, upd_b, Nat.reduceBEq, cond_true, cond_false, args0_zero, args0_succ, args0_nil, o0, o2, Ho]) (by rw [levFlat_len]; simp)) ?_
      have hch : chunk 4 (ls.length + 1) (List.drop 0 (levRows (l0 :: ls)).flatten) = levRows (l0 :: ls) := by
        have := chunk_flatten (rows := levRows (l0 :: ls)) (sz := 4) levRows_row
        rw [levRows_len] at this
        simpa using this
      rw [hch]
      have o1 : ((1 : Nat) == o) = false := by rw [beq_eq_false_iff_ne]; omega
      refine w_ret (doneD_ret (xs := [.view (levRows (l0 :: ls)), .int .i64 0]) tkC7 Tryz.results84 ⟨by simp only [sp_cons, sp_nil, upd_b, Nat.reduceBEq, cond_true, cond_false, args0_zero, args0_succ, args0_nil, H1, o1], trivial⟩ ?_ ?_ ?_)
      · simp only [resA, resOne, killAll, pv, pvx, pvIndexAddr, pvIndex, pvOwn, evp, List.replicate_succ, List.replicate_zero, List.flatten_cons, List.flatten_nil, List.append_nil, List.cons_append, List.nil_append, buildA, placesA, fillA, wr, known, cellsA, List.set_cons_zero, List.set_cons_succ, and_self, Nat.reduceSub, List.length_set, and_true, List.all_cons, List.all_nil, scalA, Bool.and_true, Bool.and_self, evo, evs, cval, Option.bind_some, Option.map_some, binv, intop, pvPick, pvUn, pvConv, pvExtract, fieldOf, pvField, pvFieldAddr, pvLoad, pvNil, loadA, partA, isAggD, pvIface, isIface, pvLen, lenA, pvCall, noYieldB, List.drop_succ_cons, List.drop_zero, List.take_succ_cons, List.take_zero, List.getElem?_cons_succ, List.getElem?_cons_zero, List.getElem?_toArray, List.length_cons, List.length_nil, Bool.false_eq_true, Nat.reduceAdd, Nat.reduceLeDiff, Nat.zero_add, Nat.reduceEqDiff, Nat.one_ne_zero, Int.reduceEq, Int.reduceLT, Int.reduceLE, Int.reduceToNat, Nat.reduceMul, Nat.reduceLT, hl_zero, hl_succ, hl_nil, sp_cons, sp_nil, upd_b, Nat.reduceBEq, cond_true, cond_false, args0_zero, args0_succ, args0_nil, ↓reduceIte, ty133, H1, o1]
      · exact .tuple (fun x hx => by
          simp only [List.mem_cons, List.not_mem_nil, or_false] at hx
          rcases hx with rfl | rfl
          · exact .view (levRows_pur _)
          · exact .int _ _)
      · show _ = _
        rw [if_pos (by rw [hls]; simp only [List.length_cons]; omega), hls]; rfl
end Go.Proofs.YtlmighkbeacjnaaGreatDoor


open Go Go.Lg
set_option linter.unusedSimpArgs false
set_option maxHeartbeats 2000000
namespace Go.Proofs.YtlmighkbeacjnaaGreatDoor
theorem tkC8 : TOK Tryz.prog (tyOf Tryz.prog) := tok Tryz.prog
def Cf.good (c : Cf) : Bool := c.ok && decide (c.levs.length ≤ 4)
def Cf.res (c : Cf) : List Lev := if c.good = true then c.levs else []
def Cf.err (c : Cf) : Int := if c.good = true then 0 else 8
theorem pf84 (c : Cf) : PF Tryz.prog 84 [.agg c.cells] (fun r => r = .tuple [.view (levRows c.res), .int .i64 c.err]) := by
  have hbad : c.good = false → ∀ h : PF Tryz.prog 84 [.agg c.cells] (fun r => r = .tuple [.empty, .int .i64 8]), PF Tryz.prog 84 [.agg c.cells] (fun r => r = .tuple [.view (levRows c.res), .int .i64 c.err]) := fun hg h => by
    have e1 : c.res = [] := by simp [Cf.res, hg]
    have e2 : c.err = 8 := by simp [Cf.err, hg]
    rw [e1, e2]
    exact h.weak (.tuple (.cons .empty (.cons (.refl _) .nil))) (.tuple (fun x hx => by
      simp only [List.mem_cons, List.not_mem_nil, or_false] at hx
      rcases hx with rfl | rfl
      · exact .view (levRows_pur _)
      · exact .int _ _))
  cases hc : c.ok with
  | false => exact hbad (by simp [Cf.good, hc]) (pf84_bad c hc)
  | true =>
    have h := pf84_ok c hc
    by_cases hl : c.levs.length ≤ 4
    · rw [if_pos hl] at h
      have hg : c.good = true := by simp [Cf.good, hc, hl]
      have e1 : c.res = c.levs := by simp [Cf.res, hg]
      have e2 : c.err = 0 := by simp [Cf.err, hg]
      rw [e1, e2]; exact h
    · rw [if_neg hl] at h
      exact hbad (by simp [Cf.good, hl]) h
theorem pf47 (c : Cf) : PF Tryz.prog 47 [.agg c.cells] (fun r => r = .int .i64 c.err) := by
  refine pf_of_w0 Tryz.func47 (c := _) rfl rfl (Nat.le_of_ble_eq_true rfl) (by simp only [Cf.cells, pur_bool, pur_int, pur_str, pur_empty, pur_nilptr, pur_nilFunc, pur_nilIface, pur_any, pur_agg, pur_tuple, pur_vptr, pur_view, pur_iface, pur_func, tup, List.mem_cons, forall_eq_or_imp, List.not_mem_nil, false_implies, implies_true, and_self, forall_const, forall_eq]) ?_
  rw [show Tryz.f47.ntmps = 11 from rfl]
  have ehc : [AV.int .i64 c.p, .int .i64 c.z, .int .i64 c.f, .int .i64 c.s, .int .i64 c.st, .int .i64 c.fr, .int .i64 c.cl, .int .i64 c.q, .int .i64 c.t] = Cf.cells c := rfl
  have tE := aI uU <| aI Cf.cells.eq_1 <| aI ty3 <| aI ty4 <| aI ty34 <| aI ty133 <| aI ty23 <| Tryz.results47; repeat' first | (refine Red.h ?_) | ((with_reducible first | apply wz tkC8 | apply wr_z tkC8); exact zZ; decide) | ((with_reducible first | apply wcall' | apply wr_call); exact zV; exact zVs; exact zAs; (focus (with_unfolding_all first | exact pf84 c)); decide) | ((with_reducible apply w_ret); (repeat refine Red.h ?_); (with_reducible apply done_ret tkC8); exact zT; exact zD; exact zX) | fail
  all_goals try clear tE
  rfl
end Go.Proofs.YtlmighkbeacjnaaGreatDoor


open Go Go.Lg
set_option linter.unusedSimpArgs false
set_option maxHeartbeats 2000000
namespace Go.Proofs.YtlmighkbeacjnaaGreatDoor
def mx (a b : Int) : Int := if b > a then b else a
def intRows (l : List Int) : List (List AV) := l.map fun x => [.int .i64 x]
theorem intRows_pur (l : List Int) : Pur (.view (intRows l)) := by
  refine .view fun r hr x hx => ?_
  simp only [intRows, List.mem_map] at hr
  obtain ⟨y, _, rfl⟩ := hr
  rcases List.mem_singleton.1 hx with rfl; exact .int _ _
theorem intRows_len (l : List Int) : (intRows l).length = l.length := by simp [intRows]
end Go.Proofs.YtlmighkbeacjnaaGreatDoor


