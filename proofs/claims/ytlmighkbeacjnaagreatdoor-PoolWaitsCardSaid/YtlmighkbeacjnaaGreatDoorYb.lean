/- Units: which ones may wait. Queues: may they be; equal ones; great ones. Frames: what they read as; the clock. Frames: pinned, may they be, where one is. frames.Check. Great frames; equal frames. -/
import Derived.Test.YtlmighkbeacjnaaGreatDoorLm5
import Derived.Test.YtlmighkbeacjnaaGreatDoorYa
import Derived.Test.YtlmighkbeacjnaaGreatDoorLm6

open Go Go.Lg
set_option linter.unusedSimpArgs false
set_option linter.unusedVariables false
set_option maxHeartbeats 4000000
namespace Go.Proofs.YtlmighkbeacjnaaGreatDoor
theorem tkE1 : TOK Tryz.prog (tyOf Tryz.prog) := tok Tryz.prog
def tfE10 := PLift.up (aI ty3 <| aI ty5 <| aI ty23 <| aI ty28 <| aI ty58 <| Tryz.results125)
def tfE12 := PLift.up (aI ty3 <| aI ty5 <| aI ty27 <| aI ty28 <| aI ty58 <| Tryz.results146)
structure Un where
  k : Int
  p : Int
  f : Int
  d : List UInt8
deriving DecidableEq
def Un.cells (u : Un) : List AV := [.int .u8 u.k, .int .i64 u.p, .int .i64 u.f, .view (byteRows u.d)]
theorem un_pur (u : Un) : ∀ x, x ∈ u.cells → Pur x := by
  intro x hx
  simp only [Un.cells, List.mem_cons, List.not_mem_nil, or_false] at hx
  rcases hx with rfl | rfl | rfl | rfl
  · exact .int _ _
  · exact .int _ _
  · exact .int _ _
  · exact byteRows_pur _
def unRows (l : List Un) : List (List AV) := l.map Un.cells
theorem unRows_len (l : List Un) : (unRows l).length = l.length := by simp [unRows]
theorem unRows_pur (l : List Un) : Pur (.view (unRows l)) := by
  refine .view fun r hr => ?_
  simp only [unRows, List.mem_map] at hr
  obtain ⟨x, _, rfl⟩ := hr; exact un_pur x
theorem un_row {l : List Un} {i : Nat} {u : Un} (h : l[i]? = some u) : (unRows l)[i]? = some [.int .u8 u.k, .int .i64 u.p, .int .i64 u.f, .view (byteRows u.d)] := by
  simp [unRows, h, Un.cells]
/-- May a unit wait? -/
def mayU (c : Cf) (u : Un) : Bool := decide (((u.k = 2 ∧ (u.d.length : Int) = c.z) ∨ (u.k = 1 ∧ (u.d.length : Int) = 0)) ∧ 0 ≤ u.p ∧ u.p < c.p ∧ 0 ≤ u.f ∧ u.f < c.fr)
theorem args_cu (c : Cf) (u : Un) : ∀ x, x ∈ [AV.agg c.cells, AV.agg u.cells] → Pur x := by
  intro x hx
  simp only [List.mem_cons, List.not_mem_nil, or_false] at hx
  rcases hx with rfl | rfl
  · exact .agg (cells_pur c)
  · exact .agg (un_pur u)
theorem pf125 (c : Cf) (u : Un) : PF Tryz.prog 125 [.agg c.cells, .agg u.cells] (fun r => r = .bool (mayU c u)) := by
  refine pf_of_w0 Tryz.func125 (c := _) rfl rfl (Nat.le_of_ble_eq_true rfl) (args_cu c u) ?_
  rw [show Tryz.f125.ntmps = 44 from rfl]
  by_cases h2 : u.k = 2
  · have k1 : (u.k == 2) = true := by simpa using h2
    have tE := aI uU <| aI Cf.cells.eq_1 <| aI Un.cells.eq_1 <| aI byteRows_len <| aI k1 <| tfE10.down; repeat' first | (refine Red.h ?_) | ((with_reducible first | apply wz tkE1 | apply wr_z tkE1); exact zZ; decide) | ((with_reducible first | apply wzg tkE1 | apply wr_zg tkE1); exact zU; exact zL; exact zU; exact zZ; decide) | ((with_reducible first | apply wskip' | apply wr_skip); exact zU; exact zL; exact zU; decide) | ((with_reducible first | apply wsplit | apply wr_split); exact zU; exact zL; constructor <;> intro _) | ((with_reducible first | apply w_ift'); exact zV; exact zU) | ((with_reducible apply w_ret); (repeat refine Red.h ?_); (with_reducible apply done_ret tkE1); exact zT; exact zD; exact zX) | fail
    all_goals try clear tE
    all_goals (simp_all [tup, mayU]; try omega)
  · have k1 : (u.k == 2) = false := by simpa using h2
    by_cases h1 : u.k = 1
    · have k2 : (u.k == 1) = true := by simpa using h1
      have tE := aI uU <| aI Cf.cells.eq_1 <| aI Un.cells.eq_1 <| aI byteRows_len <| aI k1 <| aI k2 <| tfE10.down; repeat' first | (refine Red.h ?_) | ((with_reducible first | apply blk_off); decide) | ((with_reducible first | apply wz tkE1 | apply wr_z tkE1); exact zZ; decide) | ((with_reducible first | apply wzg tkE1 | apply wr_zg tkE1); exact zU; exact zL; exact zU; exact zZ; decide) | ((with_reducible first | apply wskip' | apply wr_skip); exact zU; exact zL; exact zU; decide) | ((with_reducible first | apply wsplit | apply wr_split); exact zU; exact zL; constructor <;> intro _) | ((with_reducible first | apply w_ift'); exact zV; exact zU) | ((with_reducible first | apply w_iff'); exact zV; exact zU) | ((with_reducible apply w_ret); (repeat refine Red.h ?_); (with_reducible apply done_ret tkE1); exact zT; exact zD; exact zX) | fail
      all_goals try clear tE
      all_goals (simp_all [tup, mayU]; try omega)
    · have k2 : (u.k == 1) = false := by simpa using h1
      have tE := aI uU <| aI Cf.cells.eq_1 <| aI Un.cells.eq_1 <| aI byteRows_len <| aI k1 <| aI k2 <| tfE10.down; repeat' first | (refine Red.h ?_) | ((with_reducible first | apply blk_off); decide) | ((with_reducible first | apply wz tkE1 | apply wr_z tkE1); exact zZ; decide) | ((with_reducible first | apply w_iff'); exact zV; exact zU) | ((with_reducible apply w_ret); (repeat refine Red.h ?_); (with_reducible apply done_ret tkE1); exact zT; exact zD; exact zX) | fail
      all_goals try clear tE
      all_goals (simp_all [tup, mayU]; try omega)
theorem pf124 (c : Cf) (u : Un) : PF Tryz.prog 124 [.agg u.cells, .vptr c.cells] (fun r => r = .bool !(mayU c u)) := by
  refine pf_of_w0 Tryz.func124 (c := _) rfl rfl (Nat.le_of_ble_eq_true rfl) (fun x hx => by
    simp only [List.mem_cons, List.not_mem_nil, or_false] at hx
    rcases hx with rfl | rfl
    · exact .agg (un_pur u)
    · exact .vptr (cells_pur c)) ?_
  rw [show Tryz.f124.ntmps = 8 from rfl]
  have tE := aI uU <| aI Cf.cells.eq_1 <| aI Un.cells.eq_1 <| aI ty3 <| aI ty4 <| aI ty5 <| aI ty23 <| aI ty28 <| aI ty58 <| Tryz.results124; repeat' first | (refine Red.h ?_) | ((with_reducible first | apply wz tkE1 | apply wr_z tkE1); exact zZ; decide) | ((with_reducible first | apply wcall' | apply wr_call); exact zV; exact zVs; exact zAs; (focus (with_unfolding_all first | exact pf125 c u)); decide) | ((with_reducible apply w_ret); (repeat refine Red.h ?_); (with_reducible apply done_ret tkE1); exact zT; exact zD; exact zX) | fail
  all_goals try clear tE
  rfl
/-- Where the first one is that a test takes; -1: there is none. -/
def fidx {α : Type} (P : α → Bool) : List α → Nat → Int
  | [], _ => -1
  | x :: r, i => if P x = true then (i : Int) else fidx P r (i + 1)
theorem fidx_any {α : Type} (P : α → Bool) : ∀ (l : List α) (i : Nat), (fidx P l i ≥ 0) = (l.any P = true)
  | [], i => by simp [fidx]
  | x :: r, i => by
    cases h : P x with
    | true => simp [fidx, h]
    | false => simp only [fidx, h]; rw [if_neg (by simp), fidx_any P r (i + 1)]; simp [h]
theorem pf146 (l : List Un) (g : FuncId) (cap : List AV) (T : Un → Bool) (hl : l.length ≤ 1000000) (hcap : ∀ x, x ∈ cap → Pur x) (hg : ∀ u, u ∈ l → PF Tryz.prog g (.agg u.cells :: cap) (fun r => r = .bool (T u))) :
    PF Tryz.prog 146 [.view (unRows l), .func (.func g) [] cap] (fun r => r = .int .i64 (fidx T l 0)) := by
  have hfp : Pur (.func (.func g) [] cap) := .func (fun x hx => by cases hx) hcap
  refine pf_of_w0 Tryz.func146 (c := _) rfl rfl (Nat.le_of_ble_eq_true rfl) (fun x hx => by
    simp only [List.mem_cons, List.not_mem_nil, or_false] at hx
    rcases hx with rfl | rfl
    · exact unRows_pur l
    · exact hfp) ?_
  rw [show Tryz.f146.ntmps = 19 from rfl]
  have tE := aI uU <| aI unRows_len <| tfE12.down; repeat' first | (refine Red.h ?_) | ((with_reducible first | apply wz tkE1 | apply wr_z tkE1); exact zZ; decide) | fail
  all_goals try clear tE
  refine w_loopS (S := Nat) (fun i => [(0, .view (unRows l)), (1, .func (.func g) [] cap), (7, .int .i64 (l.length : Int)), (8, .int .i64 (i : Int))]) (fun _ => []) [] (fun i => i ≤ l.length ∧ fidx T l 0 = fidx T (l.drop i) i) (fun i => l.length - i) 0 ?_ ⟨Nat.zero_le _, rfl⟩ ?_
  · (have tu0 : Pur _ := unRows_pur l; have tu1 : Pur _ := hfp; have tE := uU; exact kcanS [])
  · rintro i ⟨hi, hix⟩
    simp only [St.ofS, List.length_nil]
    have hw : IntKind.i64.wrap ((i : Int) + 1) = ((i + 1 : Nat) : Int) := by rw [wrap64 (by omega) (by omega)]; rfl
    by_cases e : i < l.length
    · have h1 : ((i : Int) < (l.length : Int)) = True := by simp; omega
      have h0 : (0 ≤ (i : Int)) = True := by simp
      obtain ⟨u, hu⟩ : ∃ u, l[i]? = some u := ⟨l[i], List.getElem?_eq_getElem e⟩
      have hr := un_row hu
      have hd : l.drop i = u :: l.drop (i + 1) := by rw [List.drop_eq_getElem_cons e]; rw [List.getElem?_eq_getElem e] at hu; cases hu; rfl
      rw [hd] at hix
      cases ht : T u with
      | true =>
        have tE := aI uU <| aI h1 <| aI h0 <| aI hr <| aI hw <| aI ht <| aI unRows_len <| tfE12.down; repeat' first | (refine Red.h ?_) | ((with_reducible first | apply wz tkE1 | apply wr_z tkE1); exact zZ; decide) | ((with_reducible first | apply wcall' | apply wr_call); exact zV; exact zVs; exact zAs; (focus (with_unfolding_all first | exact hg u (List.mem_of_getElem? hu))); decide) | ((with_reducible first | apply w_ift'); exact zV; exact zU) | ((with_reducible apply w_ret); (repeat refine Red.h ?_); (with_reducible apply done_ret tkE1); exact zT; exact zD; exact zX) | fail
        all_goals try clear tE
        simp [tup, hix, fidx, ht]
      | false =>
        have tE := aI uU <| aI h1 <| aI h0 <| aI hr <| aI hw <| aI ht <| aI unRows_len <| tfE12.down; repeat' first | (refine Red.h ?_) | ((with_reducible first | apply wz tkE1 | apply wr_z tkE1); exact zZ; decide) | ((with_reducible first | apply wcall' | apply wr_call); exact zV; exact zVs; exact zAs; (focus (with_unfolding_all first | exact hg u (List.mem_of_getElem? hu))); decide) | ((with_reducible first | apply w_ift'); exact zV; exact zU) | ((with_reducible first | apply w_iff'); exact zV; exact zU) | fail
        all_goals try clear tE
        refine ⟨i + 1, by omega, ⟨by omega, by rw [hix]; simp [fidx, ht]⟩, ?_⟩
        (have tu0 : Pur _ := unRows_pur l; have tu1 : Pur _ := hfp; have tE := uU; exact kcanS [])
    · have h1 : ((i : Int) < (l.length : Int)) = False := by simp; omega
      have hd : l.drop i = [] := List.drop_eq_nil_iff.2 (by omega)
      rw [hd] at hix
      have tE := aI uU <| aI h1 <| tfE12.down; repeat' first | (refine Red.h ?_) | ((with_reducible first | apply wz tkE1 | apply wr_z tkE1); exact zZ; decide) | ((with_reducible first | apply w_iff'); exact zV; exact zU) | ((with_reducible apply w_ret); (repeat refine Red.h ?_); (with_reducible apply done_ret tkE1); exact zT; exact zD; exact zX) | fail
      all_goals try clear tE
      rw [hix]; rfl
theorem pf123 (l : List Un) (g : FuncId) (cap : List AV) (T : Un → Bool) (hl : l.length ≤ 1000000) (hcap : ∀ x, x ∈ cap → Pur x) (hg : ∀ u, u ∈ l → PF Tryz.prog g (.agg u.cells :: cap) (fun r => r = .bool (T u))) :
    PF Tryz.prog 123 [.view (unRows l), .func (.func g) [] cap] (fun r => r = .bool (l.any T)) := by
  have hfp : Pur (.func (.func g) [] cap) := .func (fun x hx => by cases hx) hcap
  refine pf_of_w0 Tryz.func123 (c := _) rfl rfl (Nat.le_of_ble_eq_true rfl) (fun x hx => by
    simp only [List.mem_cons, List.not_mem_nil, or_false] at hx
    rcases hx with rfl | rfl
    · exact unRows_pur l
    · exact hfp) ?_
  rw [show Tryz.f123.ntmps = 9 from rfl]
  have hany := fidx_any T l 0
  have tE := aI uU <| aI hany <| aI ty3 <| Tryz.results123; repeat' first | (refine Red.h ?_) | ((with_reducible first | apply wz tkE1 | apply wr_z tkE1); exact zZ; decide) | ((with_reducible first | apply wcall' | apply wr_call); exact zV; exact zVs; exact zAs; (focus (with_unfolding_all first | exact pf146 l g cap T hl hcap hg)); decide) | ((with_reducible apply w_ret); (repeat refine Red.h ?_); (with_reducible apply done_ret tkE1); exact zT; exact zD; exact zX) | fail
  all_goals try clear tE
  simp only [tup, Bool.decide_eq_true]
theorem pf79 (c : Cf) (l : List Un) (hl : l.length ≤ 1000000) : PF Tryz.prog 79 [.agg c.cells, .view (unRows l)] (fun r => r = .bool (l.any fun u => !mayU c u)) := by
  refine pf_of_w0 Tryz.func79 (c := _) rfl rfl (Nat.le_of_ble_eq_true rfl) (fun x hx => by
    simp only [List.mem_cons, List.not_mem_nil, or_false] at hx
    rcases hx with rfl | rfl
    · exact .agg (cells_pur c)
    · exact unRows_pur l) ?_
  rw [show Tryz.f79.ntmps = 8 from rfl]
  have hs := pf123 l 124 [.vptr c.cells] (fun u => !mayU c u) hl (fun x hx => by rcases List.mem_singleton.1 hx with rfl; exact .vptr (cells_pur c)) (fun u _ => pf124 c u)
  have tE := aI uU <| aI Cf.cells.eq_1 <| aI ty3 <| aI ty23 <| Tryz.results79; repeat' first | (refine Red.h ?_) | ((with_reducible first | apply wz tkE1 | apply wr_z tkE1); exact zZ; decide) | ((with_reducible first | apply wcall' | apply wr_call); exact zV; exact zVs; exact zAs; (focus (with_unfolding_all first | exact hs)); decide) | ((with_reducible apply w_ret); (repeat refine Red.h ?_); (with_reducible apply done_ret tkE1); exact zT; exact zD; exact zX) | fail
  all_goals try clear tE
  rfl
end Go.Proofs.YtlmighkbeacjnaaGreatDoor


open Go Go.Lg
set_option linter.unusedSimpArgs false
set_option linter.unusedVariables false
set_option maxHeartbeats 4000000
namespace Go.Proofs.YtlmighkbeacjnaaGreatDoor
theorem tkE2 : TOK Tryz.prog (tyOf Tryz.prog) := tok Tryz.prog
def tfE20 := PLift.up (aI ty3 <| aI ty5 <| aI ty23 <| aI ty27 <| aI ty28 <| aI ty34 <| aI ty58 <| Tryz.results44)
def tfE21 := PLift.up (aI ty3 <| aI ty5 <| aI ty27 <| aI ty28 <| aI ty58 <| Tryz.results34)
theorem args_cl (c : Cf) (l : List Un) : ∀ x, x ∈ [AV.agg c.cells, AV.view (unRows l)] → Pur x := by
  intro x hx
  simp only [List.mem_cons, List.not_mem_nil, or_false] at hx
  rcases hx with rfl | rfl
  · exact .agg (cells_pur c)
  · exact unRows_pur l
def qok (c : Cf) (l : List Un) : Bool := c.good && decide ((l.length : Int) ≤ c.q) && l.all (mayU c)
theorem odd_eq (c : Cf) (l : List Un) : (l.any fun u => !mayU c u) = !(l.all (mayU c)) := by simp [List.not_all_eq_any_not]
theorem pf44 (c : Cf) (l : List Un) (hl : l.length ≤ 1000000) : PF Tryz.prog 44 [.agg c.cells, .view (unRows l)] (fun r => r = .int .i64 (if qok c l = true then 0 else 8)) := by
  refine pf_of_w0 Tryz.func44 (c := _) rfl rfl (Nat.le_of_ble_eq_true rfl) (args_cl c l) ?_
  rw [show Tryz.f44.ntmps = 20 from rfl]
  cases hg : c.good with
  | false =>
    have ee : c.err = 8 := by simp [Cf.err, hg]
    have e1 : (if qok c l = true then (0 : Int) else 8) = 8 := if_neg (by simp [qok, hg])
    have tE := aI uU <| aI Cf.cells.eq_1 <| aI ee <| aI unRows_len <| tfE20.down; repeat' first | (refine Red.h ?_) | ((with_reducible first | apply wz tkE2 | apply wr_z tkE2); exact zZ; decide) | ((with_reducible first | apply wskip' | apply wr_skip); exact zU; exact zL; exact zU; decide) | ((with_reducible first | apply wcall' | apply wr_call); exact zV; exact zVs; exact zAs; (focus (with_unfolding_all first | exact pf47 c | exact pf79 c l hl)); decide) | ((with_reducible first | apply w_ift'); exact zV; exact zU) | ((with_reducible apply w_ret); (repeat refine Red.h ?_); (with_reducible apply done_ret tkE2); exact zT; exact zD; exact zX) | fail
    all_goals try clear tE
    rw [e1]; rfl
  | true =>
    have ee : c.err = 0 := by simp [Cf.err, hg]
    by_cases hq : (l.length : Int) ≤ c.q
    · have hq' : ¬ ((l.length : Int) > c.q) := by omega
      have ho := odd_eq c l
      cases ha : l.all (mayU c) with
      | false =>
        rw [ha] at ho
        have e1 : (if qok c l = true then (0 : Int) else 8) = 8 := if_neg (by simp only [qok, ha, Bool.and_false, Bool.false_eq_true, not_false_iff])
        have tE := aI uU <| aI Cf.cells.eq_1 <| aI ee <| aI hq' <| aI ho <| aI unRows_len <| tfE20.down; repeat' first | (refine Red.h ?_) | ((with_reducible first | apply wz tkE2 | apply wr_z tkE2); exact zZ; decide) | ((with_reducible first | apply wzg tkE2 | apply wr_zg tkE2); exact zU; exact zL; exact zU; exact zZ; decide) | ((with_reducible first | apply wcall' | apply wr_call); exact zV; exact zVs; exact zAs; (focus (with_unfolding_all first | exact pf47 c | exact pf79 c l hl)); decide) | ((with_reducible first | apply wcallg' | apply wr_callg); exact zU; exact zL; exact zU; exact zV; exact zVs; exact zAs; (focus (with_unfolding_all first | exact pf47 c | exact pf79 c l hl)); decide) | ((with_reducible first | apply w_ift'); exact zV; exact zU) | ((with_reducible apply w_ret); (repeat refine Red.h ?_); (with_reducible apply done_ret tkE2); exact zT; exact zD; exact zX) | fail
        all_goals try clear tE
        rw [e1]; rfl
      | true =>
        rw [ha] at ho
        have e1 : (if qok c l = true then (0 : Int) else 8) = 0 := if_pos (by simp only [qok, ha, hg, Bool.and_true, Bool.true_and, decide_eq_true_eq]; exact hq)
        have tE := aI uU <| aI Cf.cells.eq_1 <| aI ee <| aI hq' <| aI ho <| aI unRows_len <| tfE20.down; repeat' first | (refine Red.h ?_) | ((with_reducible first | apply wz tkE2 | apply wr_z tkE2); exact zZ; decide) | ((with_reducible first | apply wzg tkE2 | apply wr_zg tkE2); exact zU; exact zL; exact zU; exact zZ; decide) | ((with_reducible first | apply wcall' | apply wr_call); exact zV; exact zVs; exact zAs; (focus (with_unfolding_all first | exact pf47 c | exact pf79 c l hl)); decide) | ((with_reducible first | apply wcallg' | apply wr_callg); exact zU; exact zL; exact zU; exact zV; exact zVs; exact zAs; (focus (with_unfolding_all first | exact pf47 c | exact pf79 c l hl)); decide) | ((with_reducible first | apply w_iff'); exact zV; exact zU) | ((with_reducible apply w_ret); (repeat refine Red.h ?_); (with_reducible apply done_ret tkE2); exact zT; exact zD; exact zX) | fail
        all_goals try clear tE
        rw [e1]; rfl
    · have hq' : (l.length : Int) > c.q := by omega
      have e1 : (if qok c l = true then (0 : Int) else 8) = 8 := if_neg (by simp [qok]; intro _ h; omega)
      have tE := aI uU <| aI Cf.cells.eq_1 <| aI ee <| aI hq' <| aI unRows_len <| tfE20.down; repeat' first | (refine Red.h ?_) | ((with_reducible first | apply wz tkE2 | apply wr_z tkE2); exact zZ; decide) | ((with_reducible first | apply wzg tkE2 | apply wr_zg tkE2); exact zU; exact zL; exact zU; exact zZ; decide) | ((with_reducible first | apply wskip' | apply wr_skip); exact zU; exact zL; exact zU; decide) | ((with_reducible first | apply wcall' | apply wr_call); exact zV; exact zVs; exact zAs; (focus (with_unfolding_all first | exact pf47 c | exact pf79 c l hl)); decide) | ((with_reducible first | apply w_ift'); exact zV; exact zU) | ((with_reducible apply w_ret); (repeat refine Red.h ?_); (with_reducible apply done_ret tkE2); exact zT; exact zD; exact zX) | fail
      all_goals try clear tE
      rw [e1]; rfl
def great (l : List Un) : Bool := (l.take 40).any (fun u => decide (u.d.length > 100)) || decide (l.length > 40)
theorem pf34 (l : List Un) : PF Tryz.prog 34 [.view (unRows l)] (fun r => r = .bool (great l)) := by
  refine pf_of_w0 Tryz.func34 (c := _) rfl rfl (Nat.le_of_ble_eq_true rfl) (fun x hx => by rcases List.mem_singleton.1 hx with rfl; exact unRows_pur l) ?_
  rw [show Tryz.f34.ntmps = 24 from rfl]
  have tE := aI uU <| aI unRows_len <| tfE21.down; repeat' first | (refine Red.h ?_) | ((with_reducible first | apply wz tkE2 | apply wr_z tkE2); exact zZ; decide) | fail
  all_goals try clear tE
  refine w_loopS (S := Nat) (fun i => [(0, .view (unRows l)), (3, .int .i64 (i : Int))]) (fun _ => []) [] (fun i => i ≤ l.length ∧ i ≤ 40 ∧ (l.take 40).any (fun u => decide (u.d.length > 100)) = ((l.take 40).drop i).any (fun u => decide (u.d.length > 100))) (fun i => 40 - i) 0 ?_ ⟨Nat.zero_le _, by decide, rfl⟩ ?_
  · (have tu0 : Pur _ := unRows_pur l; have tE := uU; exact kcanS [])
  · rintro i ⟨hi, hi40, hix⟩
    simp only [St.ofS, List.length_nil]
    have hw : IntKind.i64.wrap ((i : Int) + 1) = ((i + 1 : Nat) : Int) := by rw [wrap64 (by omega) (by omega)]; rfl
    by_cases e : i < l.length
    · have h1 : ((i : Int) < (l.length : Int)) = True := by simp; omega
      by_cases e4 : i < 40
      · have h4 : ((i : Int) < 40) = True := by simp; omega
        have h0 : (0 ≤ (i : Int)) = True := by simp
        obtain ⟨u, hu⟩ : ∃ u, l[i]? = some u := ⟨l[i], List.getElem?_eq_getElem e⟩
        have hr := un_row hu
        have hu4 : (l.take 40)[i]? = some u := by rw [List.getElem?_take, if_pos e4]; exact hu
        have el4 : i < (l.take 40).length := by rw [List.length_take]; omega
        have hd : (l.take 40).drop i = u :: (l.take 40).drop (i + 1) := by rw [List.drop_eq_getElem_cons el4]; rw [List.getElem?_eq_getElem el4] at hu4; cases hu4; rfl
        rw [hd] at hix
        by_cases hb : (u.d.length : Int) > 100
        · have tE := aI uU <| aI h1 <| aI h4 <| aI h0 <| aI hr <| aI hw <| aI hb <| aI unRows_len <| aI byteRows_len <| tfE21.down; repeat' first | (refine Red.h ?_) | ((with_reducible first | apply wz tkE2 | apply wr_z tkE2); exact zZ; decide) | ((with_reducible first | apply wzg tkE2 | apply wr_zg tkE2); exact zU; exact zL; exact zU; exact zZ; decide) | ((with_reducible first | apply w_ift'); exact zV; exact zU) | ((with_reducible apply w_ret); (repeat refine Red.h ?_); (with_reducible apply done_ret tkE2); exact zT; exact zD; exact zX) | fail
          all_goals try clear tE
          have : u.d.length > 100 := by omega
          simp [tup, great, hix, this]
        · have tE := aI uU <| aI h1 <| aI h4 <| aI h0 <| aI hr <| aI hw <| aI hb <| aI unRows_len <| aI byteRows_len <| tfE21.down; repeat' first | (refine Red.h ?_) | ((with_reducible first | apply wz tkE2 | apply wr_z tkE2); exact zZ; decide) | ((with_reducible first | apply wzg tkE2 | apply wr_zg tkE2); exact zU; exact zL; exact zU; exact zZ; decide) | ((with_reducible first | apply w_ift'); exact zV; exact zU) | ((with_reducible first | apply w_iff'); exact zV; exact zU) | fail
          all_goals try clear tE
          have : ¬ (u.d.length > 100) := by omega
          refine ⟨i + 1, by omega, ⟨by omega, by omega, by rw [hix]; simp [this]⟩, ?_⟩
          (have tu0 : Pur _ := unRows_pur l; have tE := uU; exact kcanS [])
      · have h4 : ((i : Int) < 40) = False := by simp; omega
        have hd : (l.take 40).drop i = [] := List.drop_eq_nil_iff.2 (by rw [List.length_take]; omega)
        rw [hd] at hix
        have tE := aI uU <| aI h1 <| aI h4 <| aI unRows_len <| tfE21.down; repeat' first | (refine Red.h ?_) | ((with_reducible first | apply wz tkE2 | apply wr_z tkE2); exact zZ; decide) | ((with_reducible first | apply wzg tkE2 | apply wr_zg tkE2); exact zU; exact zL; exact zU; exact zZ; decide) | ((with_reducible first | apply w_iff'); exact zV; exact zU) | ((with_reducible apply w_ret); (repeat refine Red.h ?_); (with_reducible apply done_ret tkE2); exact zT; exact zD; exact zX) | fail
        all_goals try clear tE
        simp only [tup, great, hix, List.any_nil, Bool.false_or]
        congr 1
        exact decide_eq_decide.2 (by omega)
    · have h1 : ((i : Int) < (l.length : Int)) = False := by simp; omega
      have hd : (l.take 40).drop i = [] := List.drop_eq_nil_iff.2 (by rw [List.length_take]; omega)
      rw [hd] at hix
      have tE := aI uU <| aI h1 <| aI unRows_len <| tfE21.down; repeat' first | (refine Red.h ?_) | ((with_reducible first | apply wz tkE2 | apply wr_z tkE2); exact zZ; decide) | ((with_reducible first | apply wskip' | apply wr_skip); exact zU; exact zL; exact zU; decide) | ((with_reducible first | apply w_iff'); exact zV; exact zU) | ((with_reducible apply w_ret); (repeat refine Red.h ?_); (with_reducible apply done_ret tkE2); exact zT; exact zD; exact zX) | fail
      all_goals try clear tE
      simp only [tup, great, hix, List.any_nil, Bool.false_or]
      congr 1
      exact decide_eq_decide.2 (by omega)
end Go.Proofs.YtlmighkbeacjnaaGreatDoor


open Go Go.Lg
set_option linter.unusedSimpArgs false
set_option linter.unusedVariables false
namespace Go.Proofs.YtlmighkbeacjnaaGreatDoor
structure Fr where
  k : Int
  p : Int
  d : List UInt8
  pins : List Int
  rf : Bool
  dt : Bool
deriving DecidableEq
def pinned (x : Fr) : Bool := x.pins.any fun n => decide (n > 0)
def skip (x : Fr) : Bool := decide (x.k = 1) || pinned x
def unref (x : Fr) : Fr := { x with rf := false }
/-- The place that the clock comes to. -/
def cat (h n i : Nat) : Nat := (h + i) % n
def visited (h n i j : Nat) : Bool := (List.range i).any fun a => cat h n a == j
/-- The frames behind so many steps that took none. -/
def swept (l : List Fr) (h i : Nat) : List Fr := l.mapIdx fun j x => if skip x = false ∧ visited h l.length i j = true then unref x else x
/-- So many steps took none. -/
structure Past (l : List Fr) (h i : Nat) : Prop where
  rf : ∀ (j : Nat) x, l[j]? = some x → skip x = false → visited h l.length i j = true → x.rf = true
  late : ∀ (a : Nat) x, a < i → l.length ≤ a → l[cat h l.length a]? = some x → skip x = true
theorem visited_succ (h n i j : Nat) : visited h n (i + 1) j = (visited h n i j || (cat h n i == j)) := by
  simp [visited, List.range_succ, List.any_append]
theorem visited_of {h n i j a : Nat} (ha : a < i) (e : cat h n a = j) : visited h n i j = true := by
  simp only [visited, List.any_eq_true, List.mem_range, beq_iff_eq]
  exact ⟨a, ha, e⟩
theorem visited_all {h n i j : Nat} (hj : j < n) (hi : n ≤ i) (hh : h < n) : visited h n i j = true := by
  by_cases e : h ≤ j
  · exact visited_of (a := j - h) (by omega) (by unfold cat; rw [show h + (j - h) = j by omega]; exact Nat.mod_eq_of_lt hj)
  · exact visited_of (a := n - h + j) (by omega) (by unfold cat; rw [show h + (n - h + j) = j + n by omega, Nat.add_mod_right]; exact Nat.mod_eq_of_lt hj)
theorem visited_late {h n i : Nat} (hh : h < n) (hv : visited h n i (cat h n i) = true) : n ≤ i := by
  simp only [visited, List.any_eq_true, List.mem_range, beq_iff_eq, cat] at hv
  obtain ⟨a, ha, e⟩ := hv
  rcases Nat.lt_or_ge i n with hi | hi
  · exfalso
    have : (h + i - (h + a)) % n = 0 := Nat.sub_mod_eq_zero_of_mod_eq e.symm
    rw [show h + i - (h + a) = i - a by omega, Nat.mod_eq_of_lt (by omega)] at this
    omega
  · exact hi
theorem visited_back {h n i : Nat} (hi : n ≤ i) (hn : 0 < n) : visited h n i (cat h n i) = true :=
  visited_of (a := i - n) (by omega) (by unfold cat; rw [show h + i = h + (i - n) + n by omega, Nat.add_mod_right])
theorem cat_lt {h n i : Nat} (hn : 0 < n) : cat h n i < n := Nat.mod_lt _ hn
theorem swept_len (l : List Fr) (h i : Nat) : (swept l h i).length = l.length := by simp [swept]
theorem swept_get {l : List Fr} {h i j : Nat} {x : Fr} (hx : l[j]? = some x) : (swept l h i)[j]? = some (if skip x = false ∧ visited h l.length i j = true then unref x else x) := by
  simp [swept, hx]
theorem visited_zero (h n j : Nat) : visited h n 0 j = false := rfl
theorem swept_zero (l : List Fr) (h : Nat) : swept l h 0 = l := by
  refine List.ext_getElem? fun j => ?_
  cases hx : l[j]? with
  | none => rw [List.getElem?_eq_none_iff] at hx ⊢; rw [swept_len]; exact hx
  | some x => rw [swept_get hx, visited_zero]; simp
theorem past_zero (l : List Fr) (h : Nat) : Past l h 0 := ⟨fun j x _ _ hv => (by rw [visited_zero] at hv; cases hv), fun a x ha => absurd ha (Nat.not_lt_zero _)⟩
theorem swept_skip {l : List Fr} {h i : Nat} {x : Fr} (hx : l[cat h l.length i]? = some x) (hs : skip x = true) : swept l h (i + 1) = swept l h i := by
  refine List.ext_getElem? fun j => ?_
  cases hy : l[j]? with
  | none => rw [List.getElem?_eq_none (by rw [swept_len]; exact List.getElem?_eq_none_iff.1 hy), List.getElem?_eq_none (by rw [swept_len]; exact List.getElem?_eq_none_iff.1 hy)]
  | some y =>
    rw [swept_get hy, swept_get hy, visited_succ]
    by_cases e : cat h l.length i = j
    · subst e; rw [hx] at hy; cases hy; simp [hs]
    · simp [e]
theorem swept_rf {l : List Fr} {h i : Nat} {x : Fr} (hx : l[cat h l.length i]? = some x) (hs : skip x = false) : swept l h (i + 1) = (swept l h i).set (cat h l.length i) (unref x) := by
  refine List.ext_getElem? fun j => ?_
  cases hy : l[j]? with
  | none => rw [List.getElem?_eq_none (by rw [swept_len]; exact List.getElem?_eq_none_iff.1 hy), List.getElem?_eq_none (by rw [List.length_set, swept_len]; exact List.getElem?_eq_none_iff.1 hy)]
  | some y =>
    rw [swept_get hy, visited_succ, List.getElem?_set]
    by_cases e : cat h l.length i = j
    · subst e; rw [hx] at hy; cases hy
      rw [if_pos rfl, if_pos (show _ < (swept l h i).length by rw [swept_len]; exact (List.getElem?_eq_some_iff.1 hx).1), if_pos ⟨hs, by simp⟩]
    · rw [if_neg e, swept_get hy]; simp [e]
theorem past_skip {l : List Fr} {h i : Nat} {x : Fr} (hp : Past l h i) (hx : l[cat h l.length i]? = some x) (hs : skip x = true) : Past l h (i + 1) := by
  refine ⟨fun j y hy hn hv => ?_, fun a y ha hl hy => ?_⟩
  · rw [visited_succ] at hv
    by_cases e : cat h l.length i = j
    · subst e; rw [hx] at hy; cases hy; rw [hs] at hn; cases hn
    · exact hp.rf j y hy hn (by simpa [e] using hv)
  · rcases Nat.lt_or_ge a i with h1 | h1
    · exact hp.late a y h1 hl hy
    · obtain rfl : a = i := by omega
      rw [hx] at hy; cases hy; exact hs
/-- What the clock sees at its place. -/
def seen (l : List Fr) (h i : Nat) (x : Fr) : Fr := if skip x = false ∧ visited h l.length i (cat h l.length i) = true then unref x else x
theorem past_rf {l : List Fr} {h i : Nat} {x : Fr} (hp : Past l h i) (hx : l[cat h l.length i]? = some x) (hs : skip x = false) (hr : (seen l h i x).rf = true) : Past l h (i + 1) := by
  have hv0 : ¬ (visited h l.length i (cat h l.length i) = true) := fun hv => by
    unfold seen at hr
    rw [if_pos ⟨hs, hv⟩] at hr; simp [unref] at hr
  have hrx : x.rf = true := by
    unfold seen at hr
    rwa [if_neg (fun h => hv0 h.2)] at hr
  refine ⟨fun j y hy hn hv => ?_, fun a y ha hl hy => ?_⟩
  · rw [visited_succ] at hv
    by_cases e : cat h l.length i = j
    · subst e; rw [hx] at hy; cases hy; exact hrx
    · exact hp.rf j y hy hn (by simpa [e] using hv)
  · rcases Nat.lt_or_ge a i with h1 | h1
    · exact hp.late a y h1 hl hy
    · obtain rfl : a = i := by omega
      exact absurd (visited_back hl (by have := (List.getElem?_eq_some_iff.1 hx).1; omega)) hv0
/-- One is taken: it had no Ref, or all that may be taken had theirs. -/
theorem past_take {l : List Fr} {h i : Nat} {x : Fr} (hh : h < l.length) (hp : Past l h i) (hx : l[cat h l.length i]? = some x) (hs : skip x = false) (hr : (seen l h i x).rf = false) (hxr : x.rf = true) : ∀ y, y ∈ l → skip y = false → y.rf = true := by
  intro y hy hn
  obtain ⟨j, hj, rfl⟩ := List.getElem_of_mem hy
  have hv : visited h l.length i (cat h l.length i) = true := by
    cases hv : visited h l.length i (cat h l.length i) with
    | true => rfl
    | false => simp [seen, hv, hxr] at hr
  exact hp.rf j _ (List.getElem?_eq_getElem hj) hn (visited_all hj (visited_late hh hv) hh)
theorem int_row {l : List Int} {i : Nat} {x : Int} (h : l[i]? = some x) : (intRows l)[i]? = some [.int .i64 x] := by simp [intRows, h]
theorem intRows_row (l : List Int) : ∀ r, r ∈ intRows l → r.length = 1 := by
  intro r hr
  simp only [intRows, List.mem_map] at hr
  obtain ⟨y, _, rfl⟩ := hr; rfl
theorem byteRows_row (b : List UInt8) : ∀ r, r ∈ byteRows b → r.length = 1 := by
  intro r hr
  simp only [byteRows, List.mem_map] at hr
  obtain ⟨y, _, rfl⟩ := hr; rfl
def Fr.cells (x : Fr) : List AV := [.int .u8 x.k, .int .i64 x.p, .view (byteRows x.d), .view (intRows x.pins), .bool x.rf, .bool x.dt]
theorem fr_pur (x : Fr) : ∀ y, y ∈ x.cells → Pur y := by
  intro y hy
  simp only [Fr.cells, List.mem_cons, List.not_mem_nil, or_false] at hy
  rcases hy with rfl | rfl | rfl | rfl | rfl | rfl
  · exact .int _ _
  · exact .int _ _
  · exact byteRows_pur _
  · exact intRows_pur _
  · exact .bool _
  · exact .bool _
def frRows (l : List Fr) : List (List AV) := l.map Fr.cells
theorem frRows_len (l : List Fr) : (frRows l).length = l.length := by simp [frRows]
theorem frRows_row (l : List Fr) : ∀ r, r ∈ frRows l → r.length = 6 := by
  intro r hr
  simp only [frRows, List.mem_map] at hr
  obtain ⟨y, _, rfl⟩ := hr; rfl
theorem frRows_pur (l : List Fr) : Pur (.view (frRows l)) := by
  refine .view fun r hr => ?_
  simp only [frRows, List.mem_map] at hr
  obtain ⟨x, _, rfl⟩ := hr; exact fr_pur x
theorem fr_row {l : List Fr} {i : Nat} {x : Fr} (h : l[i]? = some x) : (frRows l)[i]? = some [.int .u8 x.k, .int .i64 x.p, .view (byteRows x.d), .view (intRows x.pins), .bool x.rf, .bool x.dt] := by
  simp [frRows, h, Fr.cells]
/-- Frames. -/
structure Fs where
  l : List Fr
  h : Int
def Fs.cells (f : Fs) : List AV := [.view (frRows f.l), .int .i64 f.h]
theorem fs_pur (f : Fs) : ∀ y, y ∈ f.cells → Pur y := by
  intro y hy
  simp only [Fs.cells, List.mem_cons, List.not_mem_nil, or_false] at hy
  rcases hy with rfl | rfl
  · exact frRows_pur _
  · exact .int _ _
end Go.Proofs.YtlmighkbeacjnaaGreatDoor


open Go Go.Lg
set_option linter.unusedSimpArgs false
set_option linter.unusedVariables false
set_option maxHeartbeats 4000000
namespace Go.Proofs.YtlmighkbeacjnaaGreatDoor
theorem tkF2 : TOK Tryz.prog (tyOf Tryz.prog) := tok Tryz.prog
def tfF20 := PLift.up (aI ty3 <| aI ty72 <| Tryz.results144)
def tfF21 := PLift.up (aI ty3 <| aI ty4 <| aI ty5 <| aI ty24 <| aI ty28 <| aI ty72 <| aI ty74 <| Tryz.results135)
theorem args_1 {a : AV} (ha : Pur a) : ∀ x, x ∈ [a] → Pur x := fun x hx => by rcases List.mem_singleton.1 hx with rfl; exact ha
theorem args_2 {a b : AV} (ha : Pur a) (hb : Pur b) : ∀ x, x ∈ [a, b] → Pur x := fun x hx => by
  simp only [List.mem_cons, List.not_mem_nil, or_false] at hx
  rcases hx with rfl | rfl
  · exact ha
  · exact hb
theorem args_3 {a b c : AV} (ha : Pur a) (hb : Pur b) (hc : Pur c) : ∀ x, x ∈ [a, b, c] → Pur x := fun x hx => by
  simp only [List.mem_cons, List.not_mem_nil, or_false] at hx
  rcases hx with rfl | rfl | rfl
  · exact ha
  · exact hb
  · exact hc
theorem cf_pur (c : Cf) : Pur (.agg c.cells) := .agg (cells_pur c)
theorem fra_pur (x : Fr) : Pur (.agg x.cells) := .agg (fr_pur x)
theorem fsa_pur (f : Fs) : Pur (.agg f.cells) := .agg (fs_pur f)
theorem pf145 (n : Int) : PF Tryz.prog 145 [.int .i64 n] (fun r => r = .bool (decide (n > 0))) := by
  refine pf_of_w0 Tryz.func145 (c := _) rfl rfl (Nat.le_of_ble_eq_true rfl) (args_1 (.int _ _)) ?_
  rw [show Tryz.f145.ntmps = 5 from rfl]
  have tE := aI uU <| aI ty3 <| Tryz.results145; repeat' first | (refine Red.h ?_) | ((with_reducible first | apply wz tkF2 | apply wr_z tkF2); exact zZ; decide) | ((with_reducible apply w_ret); (repeat refine Red.h ?_); (with_reducible apply done_ret tkF2); exact zT; exact zD; exact zX) | fail
  all_goals try clear tE
  rfl
theorem pf121 (n : Int) : PF Tryz.prog 121 [.int .i64 n] (fun r => r = .bool (decide (n < 0 ∨ n > 8))) := by
  refine pf_of_w0 Tryz.func121 (c := _) rfl rfl (Nat.le_of_ble_eq_true rfl) (args_1 (.int _ _)) ?_
  rw [show Tryz.f121.ntmps = 9 from rfl]
  have tE := aI uU <| aI ty3 <| Tryz.results121; repeat' first | (refine Red.h ?_) | ((with_reducible first | apply wz tkF2 | apply wr_z tkF2); exact zZ; decide) | ((with_reducible first | apply wzg tkF2 | apply wr_zg tkF2); exact zU; exact zL; exact zU; exact zZ; decide) | ((with_reducible first | apply wskip' | apply wr_skip); exact zU; exact zL; exact zU; decide) | ((with_reducible first | apply wsplit | apply wr_split); exact zU; exact zL; constructor <;> intro _) | ((with_reducible apply w_ret); (repeat refine Red.h ?_); (with_reducible apply done_ret tkF2); exact zT; exact zD; exact zX) | fail
  all_goals try clear tE
  all_goals first | (simp_all [tup]; done) | (simp_all [tup]; omega)
theorem pf144 (l : List Int) (g : FuncId) (cap : List AV) (T : Int → Bool) (hl : l.length ≤ 1000000) (hcap : ∀ x, x ∈ cap → Pur x) (hg : ∀ u, u ∈ l → PF Tryz.prog g (.int .i64 u :: cap) (fun r => r = .bool (T u))) :
    PF Tryz.prog 144 [.view (intRows l), .func (.func g) [] cap] (fun r => r = .int .i64 (fidx T l 0)) := by
  have hfp : Pur (.func (.func g) [] cap) := .func (fun x hx => by cases hx) hcap
  refine pf_of_w0 Tryz.func144 (c := _) rfl rfl (Nat.le_of_ble_eq_true rfl) (fun x hx => by
    simp only [List.mem_cons, List.not_mem_nil, or_false] at hx
    rcases hx with rfl | rfl
    · exact intRows_pur l
    · exact hfp) ?_
  rw [show Tryz.f144.ntmps = 19 from rfl]
  have tE := aI uU <| aI intRows_len <| tfF20.down; repeat' first | (refine Red.h ?_) | ((with_reducible first | apply wz tkF2 | apply wr_z tkF2); exact zZ; decide) | fail
  all_goals try clear tE
  refine w_loopS (S := Nat) (fun i => [(0, .view (intRows l)), (1, .func (.func g) [] cap), (7, .int .i64 (l.length : Int)), (8, .int .i64 (i : Int))]) (fun _ => []) [] (fun i => i ≤ l.length ∧ fidx T l 0 = fidx T (l.drop i) i) (fun i => l.length - i) 0 ?_ ⟨Nat.zero_le _, rfl⟩ ?_
  · (have tu0 : Pur _ := intRows_pur l; have tu1 : Pur _ := hfp; have tE := uU; exact kcanS [])
  · rintro i ⟨hi, hix⟩
    simp only [St.ofS, List.length_nil]
    have hw : IntKind.i64.wrap ((i : Int) + 1) = ((i + 1 : Nat) : Int) := by rw [wrap64 (by omega) (by omega)]; rfl
    by_cases e : i < l.length
    · have h1 : ((i : Int) < (l.length : Int)) = True := by simp; omega
      have h0 : (0 ≤ (i : Int)) = True := by simp
      obtain ⟨u, hu⟩ : ∃ u, l[i]? = some u := ⟨l[i], List.getElem?_eq_getElem e⟩
      have hr := int_row hu
      have hd : l.drop i = u :: l.drop (i + 1) := by rw [List.drop_eq_getElem_cons e]; rw [List.getElem?_eq_getElem e] at hu; cases hu; rfl
      rw [hd] at hix
      cases ht : T u with
      | true =>
        have tE := aI uU <| aI h1 <| aI h0 <| aI hr <| aI hw <| aI ht <| aI intRows_len <| tfF20.down; repeat' first | (refine Red.h ?_) | ((with_reducible first | apply wz tkF2 | apply wr_z tkF2); exact zZ; decide) | ((with_reducible first | apply wcall' | apply wr_call); exact zV; exact zVs; exact zAs; (focus (with_unfolding_all first | exact hg u (List.mem_of_getElem? hu))); decide) | ((with_reducible first | apply w_ift'); exact zV; exact zU) | ((with_reducible apply w_ret); (repeat refine Red.h ?_); (with_reducible apply done_ret tkF2); exact zT; exact zD; exact zX) | fail
        all_goals try clear tE
        simp [tup, hix, fidx, ht]
      | false =>
        have tE := aI uU <| aI h1 <| aI h0 <| aI hr <| aI hw <| aI ht <| aI intRows_len <| tfF20.down; repeat' first | (refine Red.h ?_) | ((with_reducible first | apply wz tkF2 | apply wr_z tkF2); exact zZ; decide) | ((with_reducible first | apply wcall' | apply wr_call); exact zV; exact zVs; exact zAs; (focus (with_unfolding_all first | exact hg u (List.mem_of_getElem? hu))); decide) | ((with_reducible first | apply w_ift'); exact zV; exact zU) | ((with_reducible first | apply w_iff'); exact zV; exact zU) | fail
        all_goals try clear tE
        refine ⟨i + 1, by omega, ⟨by omega, by rw [hix]; simp [fidx, ht]⟩, ?_⟩
        (have tu0 : Pur _ := intRows_pur l; have tu1 : Pur _ := hfp; have tE := uU; exact kcanS [])
    · have h1 : ((i : Int) < (l.length : Int)) = False := by simp; omega
      have hd : l.drop i = [] := List.drop_eq_nil_iff.2 (by omega)
      rw [hd] at hix
      have tE := aI uU <| aI h1 <| tfF20.down; repeat' first | (refine Red.h ?_) | ((with_reducible first | apply wz tkF2 | apply wr_z tkF2); exact zZ; decide) | ((with_reducible first | apply w_iff'); exact zV; exact zU) | ((with_reducible apply w_ret); (repeat refine Red.h ?_); (with_reducible apply done_ret tkF2); exact zT; exact zD; exact zX) | fail
      all_goals try clear tE
      rw [hix]; rfl
theorem pf120 (l : List Int) (g : FuncId) (cap : List AV) (T : Int → Bool) (hl : l.length ≤ 1000000) (hcap : ∀ x, x ∈ cap → Pur x) (hg : ∀ u, u ∈ l → PF Tryz.prog g (.int .i64 u :: cap) (fun r => r = .bool (T u))) :
    PF Tryz.prog 120 [.view (intRows l), .func (.func g) [] cap] (fun r => r = .bool (l.any T)) := by
  have hfp : Pur (.func (.func g) [] cap) := .func (fun x hx => by cases hx) hcap
  refine pf_of_w0 Tryz.func120 (c := _) rfl rfl (Nat.le_of_ble_eq_true rfl) (fun x hx => by
    simp only [List.mem_cons, List.not_mem_nil, or_false] at hx
    rcases hx with rfl | rfl
    · exact intRows_pur l
    · exact hfp) ?_
  rw [show Tryz.f120.ntmps = 9 from rfl]
  have hany := fidx_any T l 0
  have tE := aI uU <| aI hany <| aI ty3 <| Tryz.results120; repeat' first | (refine Red.h ?_) | ((with_reducible first | apply wz tkF2 | apply wr_z tkF2); exact zZ; decide) | ((with_reducible first | apply wcall' | apply wr_call); exact zV; exact zVs; exact zAs; (focus (with_unfolding_all first | exact pf144 l g cap T hl hcap hg)); decide) | ((with_reducible apply w_ret); (repeat refine Red.h ?_); (with_reducible apply done_ret tkF2); exact zT; exact zD; exact zX) | fail
  all_goals try clear tE
  simp only [tup, Bool.decide_eq_true]
theorem pf135 (l : List Fr) (g : FuncId) (cap : List AV) (T : Fr → Bool) (hl : l.length ≤ 1000000) (hcap : ∀ x, x ∈ cap → Pur x) (hg : ∀ u, u ∈ l → PF Tryz.prog g (.agg u.cells :: cap) (fun r => r = .bool (T u))) :
    PF Tryz.prog 135 [.view (frRows l), .func (.func g) [] cap] (fun r => r = .int .i64 (fidx T l 0)) := by
  have hfp : Pur (.func (.func g) [] cap) := .func (fun x hx => by cases hx) hcap
  refine pf_of_w0 Tryz.func135 (c := _) rfl rfl (Nat.le_of_ble_eq_true rfl) (fun x hx => by
    simp only [List.mem_cons, List.not_mem_nil, or_false] at hx
    rcases hx with rfl | rfl
    · exact frRows_pur l
    · exact hfp) ?_
  rw [show Tryz.f135.ntmps = 19 from rfl]
  have tE := aI uU <| aI frRows_len <| tfF21.down; repeat' first | (refine Red.h ?_) | ((with_reducible first | apply wz tkF2 | apply wr_z tkF2); exact zZ; decide) | fail
  all_goals try clear tE
  refine w_loopS (S := Nat) (fun i => [(0, .view (frRows l)), (1, .func (.func g) [] cap), (7, .int .i64 (l.length : Int)), (8, .int .i64 (i : Int))]) (fun _ => []) [] (fun i => i ≤ l.length ∧ fidx T l 0 = fidx T (l.drop i) i) (fun i => l.length - i) 0 ?_ ⟨Nat.zero_le _, rfl⟩ ?_
  · (have tu0 : Pur _ := frRows_pur l; have tu1 : Pur _ := hfp; have tE := uU; exact kcanS [])
  · rintro i ⟨hi, hix⟩
    simp only [St.ofS, List.length_nil]
    have hw : IntKind.i64.wrap ((i : Int) + 1) = ((i + 1 : Nat) : Int) := by rw [wrap64 (by omega) (by omega)]; rfl
    by_cases e : i < l.length
    · have h1 : ((i : Int) < (l.length : Int)) = True := by simp; omega
      have h0 : (0 ≤ (i : Int)) = True := by simp
      obtain ⟨u, hu⟩ : ∃ u, l[i]? = some u := ⟨l[i], List.getElem?_eq_getElem e⟩
      have hr := fr_row hu
      have hd : l.drop i = u :: l.drop (i + 1) := by rw [List.drop_eq_getElem_cons e]; rw [List.getElem?_eq_getElem e] at hu; cases hu; rfl
      rw [hd] at hix
      cases ht : T u with
      | true =>
        have tE := aI uU <| aI h1 <| aI h0 <| aI hr <| aI hw <| aI ht <| aI frRows_len <| tfF21.down; repeat' first | (refine Red.h ?_) | ((with_reducible first | apply wz tkF2 | apply wr_z tkF2); exact zZ; decide) | ((with_reducible first | apply wcall' | apply wr_call); exact zV; exact zVs; exact zAs; (focus (with_unfolding_all first | exact hg u (List.mem_of_getElem? hu))); decide) | ((with_reducible first | apply w_ift'); exact zV; exact zU) | ((with_reducible apply w_ret); (repeat refine Red.h ?_); (with_reducible apply done_ret tkF2); exact zT; exact zD; exact zX) | fail
        all_goals try clear tE
        simp [tup, hix, fidx, ht]
      | false =>
        have tE := aI uU <| aI h1 <| aI h0 <| aI hr <| aI hw <| aI ht <| aI frRows_len <| tfF21.down; repeat' first | (refine Red.h ?_) | ((with_reducible first | apply wz tkF2 | apply wr_z tkF2); exact zZ; decide) | ((with_reducible first | apply wcall' | apply wr_call); exact zV; exact zVs; exact zAs; (focus (with_unfolding_all first | exact hg u (List.mem_of_getElem? hu))); decide) | ((with_reducible first | apply w_ift'); exact zV; exact zU) | ((with_reducible first | apply w_iff'); exact zV; exact zU) | fail
        all_goals try clear tE
        refine ⟨i + 1, by omega, ⟨by omega, by rw [hix]; simp [fidx, ht]⟩, ?_⟩
        (have tu0 : Pur _ := frRows_pur l; have tu1 : Pur _ := hfp; have tE := uU; exact kcanS [])
    · have h1 : ((i : Int) < (l.length : Int)) = False := by simp; omega
      have hd : l.drop i = [] := List.drop_eq_nil_iff.2 (by omega)
      rw [hd] at hix
      have tE := aI uU <| aI h1 <| tfF21.down; repeat' first | (refine Red.h ?_) | ((with_reducible first | apply wz tkF2 | apply wr_z tkF2); exact zZ; decide) | ((with_reducible first | apply w_iff'); exact zV; exact zU) | ((with_reducible apply w_ret); (repeat refine Red.h ?_); (with_reducible apply done_ret tkF2); exact zT; exact zD; exact zX) | fail
      all_goals try clear tE
      rw [hix]; rfl
theorem pf122 (x : Fr) (hl : x.pins.length ≤ 1000000) : PF Tryz.prog 122 [.agg x.cells] (fun r => r = .bool (pinned x)) := by
  refine pf_of_w0 Tryz.func122 (c := _) rfl rfl (Nat.le_of_ble_eq_true rfl) (args_1 (fra_pur x)) ?_
  rw [show Tryz.f122.ntmps = 6 from rfl]
  have hs := pf120 x.pins 145 [] (fun n => decide (n > 0)) hl (fun x hx => by cases hx) (fun u _ => pf145 u)
  have tE := aI uU <| aI Fr.cells.eq_1 <| aI ty3 <| aI ty4 <| aI ty5 <| aI ty28 <| aI ty72 <| aI ty74 <| Tryz.results122; repeat' first | (refine Red.h ?_) | ((with_reducible first | apply wz tkF2 | apply wr_z tkF2); exact zZ; decide) | ((with_reducible first | apply wcall' | apply wr_call); exact zV; exact zVs; exact zAs; (focus (with_unfolding_all first | exact hs)); decide) | ((with_reducible apply w_ret); (repeat refine Red.h ?_); (with_reducible apply done_ret tkF2); exact zT; exact zD; exact zX) | fail
  all_goals try clear tE
  rfl
def wildP (x : Fr) : Bool := x.pins.any fun n => decide (n < 0 ∨ n > 8)
/-- May a frame be? -/
def mayF (c : Cf) (x : Fr) : Bool := decide ((x.pins.length : Int) = c.cl) && !wildP x &&
  bif x.k == 0 then decide (x.p = 0) && decide ((x.d.length : Int) = 0) && !pinned x && !x.rf && !x.dt else
  bif x.k == 1 then decide (0 ≤ x.p ∧ x.p < c.p) && decide ((x.d.length : Int) = 0) && !x.dt && pinned x else
  bif x.k == 2 then decide (0 ≤ x.p ∧ x.p < c.p) && decide ((x.d.length : Int) = c.z) else false
theorem pf78 (c : Cf) (x : Fr) (hl : x.pins.length ≤ 1000000) : PF Tryz.prog 78 [.agg c.cells, .agg x.cells] (fun r => r = .bool (mayF c x)) := by
  refine pf_of_w0 Tryz.func78 (c := _) rfl rfl (Nat.le_of_ble_eq_true rfl) (args_2 (cf_pur c) (fra_pur x)) ?_
  rw [show Tryz.f78.ntmps = 84 from rfl]
  have hs := pf120 x.pins 121 [] (fun n => decide (n < 0 ∨ n > 8)) hl (fun x hx => by cases hx) (fun u _ => pf121 u)
  have h49 := pf122 x hl
  rw [show (x.pins.any fun n => decide (n < 0 ∨ n > 8)) = wildP x from rfl] at hs
  have tE := aI uU <| aI Cf.cells.eq_1 <| aI Fr.cells.eq_1 <| aI intRows_len <| aI byteRows_len <| aI ty3 <| aI ty4 <| aI ty5 <| aI ty23 <| aI ty28 <| aI ty72 <| aI ty74 <| Tryz.results78; repeat' first | (refine Red.h ?_) | ((with_reducible first | apply wz tkF2 | apply wr_z tkF2); exact zZ; decide) | ((with_reducible first | apply wzg tkF2 | apply wr_zg tkF2); exact zU; exact zL; exact zU; exact zZ; decide) | ((with_reducible first | apply wskip' | apply wr_skip); exact zU; exact zL; exact zU; decide) | ((with_reducible first | apply wcallg' | apply wr_callg); exact zU; exact zL; exact zU; exact zV; exact zVs; exact zAs; (focus (with_unfolding_all first | exact hs | exact h49)); decide) | ((with_reducible first | apply wsplit | apply wr_split); exact zU; exact zL; constructor <;> intro _) | ((with_reducible first | apply w_ift'); exact zV; exact zU) | ((with_reducible first | apply w_if); exact zV; constructor <;> intro _) | ((with_reducible apply w_ret); (repeat refine Red.h ?_); (with_reducible apply done_ret tkF2); exact zT; exact zD; exact zX) | fail
  all_goals try clear tE
  all_goals first | (simp_all [tup, mayF]; done) | (simp_all [tup, mayF]; omega) | (simp_all [tup, mayF]; rw [Bool.eq_iff_iff]; simp_all <;> omega)
def isAt (p : Int) (x : Fr) : Bool := decide (x.k ≠ 0 ∧ x.p = p)
theorem pf140 (x : Fr) (p : Int) : PF Tryz.prog 140 [.agg x.cells, .vptr [.int .i64 p]] (fun r => r = .bool (isAt p x)) := by
  refine pf_of_w0 Tryz.func140 (c := _) rfl rfl (Nat.le_of_ble_eq_true rfl) (args_2 (fra_pur x) (.vptr (args_1 (.int _ _)))) ?_
  rw [show Tryz.f140.ntmps = 13 from rfl]
  have tE := aI uU <| aI Fr.cells.eq_1 <| aI ty3 <| aI ty4 <| aI ty5 <| aI ty28 <| aI ty72 <| aI ty74 <| Tryz.results140; repeat' first | (refine Red.h ?_) | ((with_reducible first | apply wz tkF2 | apply wr_z tkF2); exact zZ; decide) | ((with_reducible first | apply wzg tkF2 | apply wr_zg tkF2); exact zU; exact zL; exact zU; exact zZ; decide) | ((with_reducible first | apply wskip' | apply wr_skip); exact zU; exact zL; exact zU; decide) | ((with_reducible first | apply wsplit | apply wr_split); exact zU; exact zL; constructor <;> intro _) | ((with_reducible apply w_ret); (repeat refine Red.h ?_); (with_reducible apply done_ret tkF2); exact zT; exact zD; exact zX) | fail
  all_goals try clear tE
  all_goals first | (simp_all [tup, isAt]; done) | (simp_all [tup, isAt]; omega) | (simp_all [tup, isAt]; rw [Bool.eq_iff_iff]; simp_all <;> omega)
theorem pf103 (f : Fs) (p : Int) (hl : f.l.length ≤ 1000000) : PF Tryz.prog 103 [.agg f.cells, .int .i64 p] (fun r => r = .int .i64 (fidx (isAt p) f.l 0)) := by
  refine pf_of_w0 Tryz.func103 (c := _) rfl rfl (Nat.le_of_ble_eq_true rfl) (args_2 (fsa_pur f) (.int _ _)) ?_
  rw [show Tryz.f103.ntmps = 9 from rfl]
  have hs := pf135 f.l 140 [.vptr [.int .i64 p]] (isAt p) hl (args_1 (.vptr (args_1 (.int _ _)))) (fun u _ => pf140 u p)
  have tE := aI uU <| aI Fs.cells.eq_1 <| aI ty3 <| aI ty4 <| aI ty5 <| aI ty24 <| aI ty26 <| aI ty28 <| aI ty72 <| aI ty74 <| Tryz.results103; repeat' first | (refine Red.h ?_) | ((with_reducible first | apply wz tkF2 | apply wr_z tkF2); exact zZ; decide) | ((with_reducible first | apply wcall' | apply wr_call); exact zV; exact zVs; exact zAs; (focus (with_unfolding_all first | exact hs)); decide) | ((with_reducible apply w_ret); (repeat refine Red.h ?_); (with_reducible apply done_ret tkF2); exact zT; exact zD; exact zX) | fail
  all_goals try clear tE
  rfl
def freeF (x : Fr) : Bool := decide (x.k = 0) || decide (x.k = 2) && !pinned x
end Go.Proofs.YtlmighkbeacjnaaGreatDoor


open Go Go.Lg
set_option linter.unusedSimpArgs false
set_option linter.unusedVariables false
set_option maxHeartbeats 4000000
namespace Go.Proofs.YtlmighkbeacjnaaGreatDoor
theorem tkF3 : TOK Tryz.prog (tyOf Tryz.prog) := tok Tryz.prog
def tfF30 := PLift.up (aI ty3 <| aI ty4 <| aI ty5 <| aI ty23 <| aI ty24 <| aI ty26 <| aI ty28 <| aI ty34 <| aI ty72 <| aI ty74 <| aI ty89 <| Tryz.results43)
/-- The pages that frames hold. -/
def held (l : List Fr) : List Int := l.flatMap fun x => if x.k = 0 then [] else [x.p]
theorem held_snoc (l : List Fr) (x : Fr) : held (l ++ [x]) = held l ++ (if x.k = 0 then [] else [x.p]) := by simp [held]
/-- May frames be, behind some that hold these pages? -/
def okL (c : Cf) (s : List Int) : List Fr → Bool
  | [] => true
  | x :: r => mayF c x && bif x.k == 0 then okL c s r else !s.contains x.p && okL c (s ++ [x.p]) r
def okS (c : Cf) (f : Fs) : Bool := c.good && decide ((f.l.length : Int) = c.fr) && decide (0 ≤ f.h) && decide (f.h < f.l.length)
def okF (c : Cf) (f : Fs) : Bool := okS c f && okL c [] f.l
def eF (c : Cf) (f : Fs) : Int := if okF c f = true then 0 else 8
def ones (s : List Int) : List (Int × Int) := s.map fun p => (p, 1)
theorem ones_ne {s : List Int} {p : Int} (h : s.contains p = false) : ∀ q, q ∈ ones s → q.1 ≠ p := by
  intro q hq e
  simp only [ones, List.mem_map] at hq
  obtain ⟨a, ha, rfl⟩ := hq
  subst e
  simp at h; exact h ha
theorem ones_at : ∀ {s : List Int} {p : Int}, s.contains p = true → ∃ j, (ones s)[j]? = some (p, 1) ∧ ∀ (a : Nat) q, a < j → (ones s)[a]? = some q → q.1 ≠ p
  | [], p, h => by simp at h
  | x :: s, p, h => by
    by_cases e : x = p
    · exact ⟨0, by simp [ones, e], fun a q ha => absurd ha (Nat.not_lt_zero _)⟩
    · obtain ⟨j, h1, h2⟩ := ones_at (s := s) (p := p) (by simpa [Ne.symm e] using h)
      refine ⟨j + 1, by simpa [ones] using h1, fun a q ha hq => ?_⟩
      cases a with
      | zero => simp [ones] at hq; subst hq; exact e
      | succ a => exact h2 a q (by omega) (by simpa [ones] using hq)
theorem ones_snoc (s : List Int) (p : Int) : ones s ++ [(p, 1)] = ones (s ++ [p]) := by simp [ones]
theorem pf43 (c : Cf) (f : Fs) (hl : f.l.length ≤ 1000000) (hpl : ∀ x, x ∈ f.l → x.pins.length ≤ 1000000) : PF Tryz.prog 43 [.agg c.cells, .agg f.cells] (fun r => r = .int .i64 (eF c f)) := by
  refine pf_of_w0 Tryz.func43 (c := _) rfl rfl (Nat.le_of_ble_eq_true rfl) (args_2 (cf_pur c) (fsa_pur f)) ?_
  rw [show Tryz.f43.ntmps = 58 from rfl]
  cases hs : okS c f with
  | false =>
    have ev : eF c f = 8 := by simp [eF, okF, hs]
    cases hg : c.good with
    | false =>
      have ee : c.err = 8 := by simp [Cf.err, hg]
      have tE := aI uU <| aI Cf.cells.eq_1 <| aI Fs.cells.eq_1 <| aI ee <| aI frRows_len <| tfF30.down; repeat' first | (refine Red.h ?_) | ((with_reducible first | apply wz tkF3 | apply wr_z tkF3); exact zZ; decide) | ((with_reducible first | apply wskip' | apply wr_skip); exact zU; exact zL; exact zU; decide) | ((with_reducible first | apply wcall' | apply wr_call); exact zV; exact zVs; exact zAs; (focus (with_unfolding_all first | exact pf47 c)); decide) | ((with_reducible first | apply w_ift'); exact zV; exact zU) | ((with_reducible apply w_ret); (repeat refine Red.h ?_); (with_reducible apply done_ret tkF3); exact zT; exact zD; exact zX) | fail
      all_goals try clear tE
      rw [ev]; rfl
    | true =>
      have ee : c.err = 0 := by simp [Cf.err, hg]
      by_cases h1 : (f.l.length : Int) = c.fr
      · by_cases h2 : f.h < 0
        · have h2' : (f.h < 0) = True := eq_true h2
          have h1' : ((f.l.length : Int) != c.fr) = false := by simp [h1]
          have tE := aI uU <| aI Cf.cells.eq_1 <| aI Fs.cells.eq_1 <| aI ee <| aI frRows_len <| aI h1' <| aI h2' <| tfF30.down; repeat' first | (refine Red.h ?_) | ((with_reducible first | apply wz tkF3 | apply wr_z tkF3); exact zZ; decide) | ((with_reducible first | apply wzg tkF3 | apply wr_zg tkF3); exact zU; exact zL; exact zU; exact zZ; decide) | ((with_reducible first | apply wskip' | apply wr_skip); exact zU; exact zL; exact zU; decide) | ((with_reducible first | apply wcall' | apply wr_call); exact zV; exact zVs; exact zAs; (focus (with_unfolding_all first | exact pf47 c)); decide) | ((with_reducible first | apply w_ift'); exact zV; exact zU) | ((with_reducible apply w_ret); (repeat refine Red.h ?_); (with_reducible apply done_ret tkF3); exact zT; exact zD; exact zX) | fail
          all_goals try clear tE
          rw [ev]; rfl
        · have h2' : (f.h < 0) = False := eq_false h2
          have h1' : ((f.l.length : Int) != c.fr) = false := by simp [h1]
          have h3 : (f.h ≥ (f.l.length : Int)) = True := by
            simp [okS, hg, h1] at hs
            simp; omega
          have tE := aI uU <| aI Cf.cells.eq_1 <| aI Fs.cells.eq_1 <| aI ee <| aI frRows_len <| aI h1' <| aI h2' <| aI h3 <| tfF30.down; repeat' first | (refine Red.h ?_) | ((with_reducible first | apply wz tkF3 | apply wr_z tkF3); exact zZ; decide) | ((with_reducible first | apply wzg tkF3 | apply wr_zg tkF3); exact zU; exact zL; exact zU; exact zZ; decide) | ((with_reducible first | apply wcall' | apply wr_call); exact zV; exact zVs; exact zAs; (focus (with_unfolding_all first | exact pf47 c)); decide) | ((with_reducible first | apply w_ift'); exact zV; exact zU) | ((with_reducible apply w_ret); (repeat refine Red.h ?_); (with_reducible apply done_ret tkF3); exact zT; exact zD; exact zX) | fail
          all_goals try clear tE
          rw [ev]; rfl
      · have h1' : ((f.l.length : Int) != c.fr) = true := by simp [h1]
        have tE := aI uU <| aI Cf.cells.eq_1 <| aI Fs.cells.eq_1 <| aI ee <| aI frRows_len <| aI h1' <| tfF30.down; repeat' first | (refine Red.h ?_) | ((with_reducible first | apply wz tkF3 | apply wr_z tkF3); exact zZ; decide) | ((with_reducible first | apply wzg tkF3 | apply wr_zg tkF3); exact zU; exact zL; exact zU; exact zZ; decide) | ((with_reducible first | apply wskip' | apply wr_skip); exact zU; exact zL; exact zU; decide) | ((with_reducible first | apply wcall' | apply wr_call); exact zV; exact zVs; exact zAs; (focus (with_unfolding_all first | exact pf47 c)); decide) | ((with_reducible first | apply w_ift'); exact zV; exact zU) | ((with_reducible apply w_ret); (repeat refine Red.h ?_); (with_reducible apply done_ret tkF3); exact zT; exact zD; exact zX) | fail
        all_goals try clear tE
        rw [ev]; rfl
  | true =>
    have hs' := hs
    simp only [okS, Bool.and_eq_true, decide_eq_true_eq] at hs
    obtain ⟨⟨⟨hg, h1⟩, h2⟩, h3⟩ := hs
    have ee : c.err = 0 := by simp [Cf.err, hg]
    have h1' : ((f.l.length : Int) != c.fr) = false := by simp [h1]
    have h2' : (f.h < 0) = False := by simp; omega
    have h3' : (f.h ≥ (f.l.length : Int)) = False := by simp; omega
    have ev : eF c f = if okL c [] f.l = true then 0 else 8 := by simp [eF, okF, hs']
    have tE := aI uU <| aI Cf.cells.eq_1 <| aI Fs.cells.eq_1 <| aI ee <| aI frRows_len <| aI h1' <| aI h2' <| aI h3' <| tfF30.down; repeat' first | (refine Red.h ?_) | ((with_reducible first | apply wz tkF3 | apply wr_z tkF3); exact zZ; decide) | ((with_reducible first | apply wzg tkF3 | apply wr_zg tkF3); exact zU; exact zL; exact zU; exact zZ; decide) | ((with_reducible first | apply w_mkmap); decide) | ((with_reducible first | apply wcall' | apply wr_call); exact zV; exact zVs; exact zAs; (focus (with_unfolding_all first | exact pf47 c)); decide) | ((with_reducible first | apply w_iff'); exact zV; exact zU) | fail
    all_goals try clear tE
    refine w_loopS (S := Nat) (fun i => [(2, .vptr c.cells), (5, .map 0), (34, .view (frRows f.l)), (35, .int .i64 (f.l.length : Int)), (36, .int .i64 (i : Int))]) (fun i => [some (.map (entM .i64 .i64 (ones (held (f.l.take i)))))]) [] (fun i => i ≤ f.l.length ∧ okL c [] f.l = okL c (held (f.l.take i)) (f.l.drop i)) (fun i => f.l.length - i) 0 ?_ ⟨Nat.zero_le _, rfl⟩ ?_
    · have hv := frRows_pur f.l
      have hc : Pur (.vptr c.cells) := .vptr (cells_pur c)
      (have tE := uU; refine kcanS [0] (h6 := ?_)); clear tE
      exact ⟨⟨0, _, rfl, rfl, .map (by intro p hp; cases hp)⟩, trivial⟩
    · rintro i ⟨hi, hix⟩
      simp only [St.ofS, List.length_nil, List.length_cons, Nat.zero_add]
      have hw : IntKind.i64.wrap ((i : Int) + 1) = ((i + 1 : Nat) : Int) := by rw [wrap64 (by omega) (by omega)]; rfl
      have hv := frRows_pur f.l
      have hcv : Pur (.vptr c.cells) := .vptr (cells_pur c)
      by_cases e : i < f.l.length
      · have g1 : ((i : Int) < (f.l.length : Int)) = True := by simp; omega
        have g0 : (0 ≤ (i : Int)) = True := by simp
        obtain ⟨u, hu⟩ : ∃ u, f.l[i]? = some u := ⟨f.l[i], List.getElem?_eq_getElem e⟩
        have hr := fr_row hu
        have hd : f.l.drop i = u :: f.l.drop (i + 1) := by rw [List.drop_eq_getElem_cons e]; rw [List.getElem?_eq_getElem e] at hu; cases hu; rfl
        have htk : f.l.take (i + 1) = f.l.take i ++ [u] := by rw [List.take_add_one, hu]; rfl
        rw [hd] at hix
        have h47 := pf78 c u (hpl u (List.mem_of_getElem? hu))
        cases hm : mayF c u with
        | false =>
          have tE := aI uU <| aI Cf.cells.eq_1 <| aI Fr.cells.eq_1 <| aI frRows_len <| aI g1 <| aI g0 <| aI hr <| aI hw <| aI hm <| tfF30.down; repeat' first | (refine Red.h ?_) | ((with_reducible first | apply wz tkF3 | apply wr_z tkF3); exact zZ; decide) | ((with_reducible first | apply w_alloc tkF3); exact zT; decide) | ((with_reducible first | apply w_store tkF3); exact zV; exact zV; exact zS) | ((with_reducible first | apply wcall' | apply wr_call); exact zV; exact zVs; exact zAs; (focus (with_unfolding_all first | exact h47)); decide) | ((with_reducible first | apply w_ift'); exact zV; exact zU) | ((with_reducible apply w_ret); (repeat refine Red.h ?_); (with_reducible apply done_ret tkF3); exact zT; exact zD; exact zX) | fail
          all_goals try clear tE
          rw [ev, hix]; simp [okL, hm, tup]
        | true =>
          by_cases hk : u.k = 0
          · have hk' : (u.k == 0) = true := by simpa using hk
            have tE := aI uU <| aI Cf.cells.eq_1 <| aI Fr.cells.eq_1 <| aI frRows_len <| aI g1 <| aI g0 <| aI hr <| aI hw <| aI hm <| aI hk' <| tfF30.down; repeat' first | (refine Red.h ?_) | ((with_reducible first | apply wz tkF3 | apply wr_z tkF3); exact zZ; decide) | ((with_reducible first | apply w_alloc tkF3); exact zT; decide) | ((with_reducible first | apply w_store tkF3); exact zV; exact zV; exact zS) | ((with_reducible first | apply wcall' | apply wr_call); exact zV; exact zVs; exact zAs; (focus (with_unfolding_all first | exact h47)); decide) | ((with_reducible first | apply w_ift'); exact zV; exact zU) | ((with_reducible first | apply w_iff'); exact zV; exact zU) | fail
            all_goals try clear tE
            have hh : held (f.l.take (i + 1)) = held (f.l.take i) := by rw [htk, held_snoc, if_pos hk, List.append_nil]
            refine ⟨i + 1, by omega, ⟨by omega, by rw [hix, hh]; simp [okL, hm, hk]⟩, ?_⟩
            rw [hh]
            (have tE := uU; refine kcanS [0] (h6 := ?_)); clear tE
            exact ⟨⟨0, _, rfl, rfl, .map (entM_pur _ _ _)⟩, trivial⟩
          · have hk' : (u.k == 0) = false := by simpa using hk
            have hh : held (f.l.take (i + 1)) = held (f.l.take i) ++ [u.p] := by rw [htk, held_snoc, if_neg hk]
            have w1 : IntKind.i64.wrap (Int.ofNat 0 + 1) = 1 := rfl
            have w2 : IntKind.i64.wrap (1 + 1) = 2 := rfl
            generalize hsn : held (f.l.take i) = s at hix hh
            cases hin : s.contains u.p with
            | true =>
              obtain ⟨j, hj1, hj2⟩ := ones_at hin
              have m1 : findM u.p .i64 (entM .i64 .i64 (ones s)) 0 = some (some (j, .int .i64 1)) := by have := findM_some (kk := .i64) (vk := .i64) (i := 0) hj1 hj2; simpa using this
              have hjl : j < (ones s).length := (List.getElem?_eq_some_iff.1 hj1).1
              have m2 : findM u.p .i64 (entM .i64 .i64 ((ones s).set j (u.p, 2))) 0 = some (some (j, .int .i64 2)) := by
                have := findM_some (kk := .i64) (vk := .i64) (i := 0) (l := (ones s).set j (u.p, 2)) (j := j) (k := u.p) (v := 2) (by rw [List.getElem?_set_self hjl]) (fun a q ha hq => hj2 a q ha (by rw [List.getElem?_set_ne (by omega)] at hq; exact hq))
                simpa using this
              have m3 : ((2 : Int) > 1) = True := by simp
              have tE := aI uU <| aI Cf.cells.eq_1 <| aI Fr.cells.eq_1 <| aI frRows_len <| aI g1 <| aI g0 <| aI hr <| aI hw <| aI hm <| aI hk' <| aI w1 <| aI w2 <| aI m1 <| aI m2 <| aI m3 <| tfF30.down; repeat' first | (refine Red.h ?_) | ((with_reducible first | apply wz tkF3 | apply wr_z tkF3); exact zZ; decide) | ((with_reducible first | apply w_alloc tkF3); exact zT; decide) | ((with_reducible first | apply w_mapget tkF3); exact zV; exact zV; exact zH; exact zT; exact zU; exact zT; exact zU; exact zT; exact zU; exact zT; exact zG; decide) | ((with_reducible first | apply w_mapput tkF3); exact zV; exact zV; exact zV; exact zH; exact zT; exact zU; exact zT; exact zU; exact zT; exact zG) | ((with_reducible first | apply w_store tkF3); exact zV; exact zV; exact zS) | ((with_reducible first | apply wcall' | apply wr_call); exact zV; exact zVs; exact zAs; (focus (with_unfolding_all first | exact h47)); decide) | ((with_reducible first | apply w_ift'); exact zV; exact zU) | ((with_reducible first | apply w_iff'); exact zV; exact zU) | ((with_reducible apply w_ret); (repeat refine Red.h ?_); (with_reducible apply done_ret tkF3); exact zT; exact zD; exact zX) | fail
              all_goals try clear tE
              rw [ev, hix]; simp [okL, hm, hk, tup]
              intro h; simp at hin; exact absurd hin h
            | false =>
              have m1 : findM u.p .i64 (entM .i64 .i64 (ones s)) 0 = some none := findM_none (ones_ne hin)
              have m2 : findM u.p .i64 (entM .i64 .i64 (ones s ++ [(u.p, 1)])) 0 = some (some ((ones s).length, .int .i64 1)) := findM_last (ones_ne hin)
              have m3 : ((1 : Int) > 1) = False := by simp
              have tE := aI uU <| aI Cf.cells.eq_1 <| aI Fr.cells.eq_1 <| aI frRows_len <| aI g1 <| aI g0 <| aI hr <| aI hw <| aI hm <| aI hk' <| aI w1 <| aI m1 <| aI m2 <| aI m3 <| tfF30.down; repeat' first | (refine Red.h ?_) | ((with_reducible first | apply wz tkF3 | apply wr_z tkF3); exact zZ; decide) | ((with_reducible first | apply w_alloc tkF3); exact zT; decide) | ((with_reducible first | apply w_mapget tkF3); exact zV; exact zV; exact zH; exact zT; exact zU; exact zT; exact zU; exact zT; exact zU; exact zT; exact zG; decide) | ((with_reducible first | apply w_mapput tkF3); exact zV; exact zV; exact zV; exact zH; exact zT; exact zU; exact zT; exact zU; exact zT; exact zG) | ((with_reducible first | apply w_store tkF3); exact zV; exact zV; exact zS) | ((with_reducible first | apply wcall' | apply wr_call); exact zV; exact zVs; exact zAs; (focus (with_unfolding_all first | exact h47)); decide) | ((with_reducible first | apply w_ift'); exact zV; exact zU) | ((with_reducible first | apply w_iff'); exact zV; exact zU) | fail
              all_goals try clear tE
              refine ⟨i + 1, by omega, ⟨by omega, by rw [hix, hh]; simp only [okL, hm, hk', Bool.true_and, cond_false, hin, Bool.not_false]⟩, ?_⟩
              rw [hh, ← ones_snoc]
              (have tE := uU; refine kcanS [0] (h6 := ?_)); clear tE
              exact ⟨⟨0, _, rfl, rfl, .map (entM_pur _ _ _)⟩, trivial⟩
      · have g1 : ((i : Int) < (f.l.length : Int)) = False := by simp; omega
        have hd : f.l.drop i = [] := List.drop_eq_nil_iff.2 (by omega)
        rw [hd] at hix
        have tE := aI uU <| aI Cf.cells.eq_1 <| aI Fr.cells.eq_1 <| aI frRows_len <| aI g1 <| tfF30.down; repeat' first | (refine Red.h ?_) | ((with_reducible first | apply wz tkF3 | apply wr_z tkF3); exact zZ; decide) | ((with_reducible first | apply w_iff'); exact zV; exact zU) | ((with_reducible apply w_ret); (repeat refine Red.h ?_); (with_reducible apply done_ret tkF3); exact zT; exact zD; exact zX) | fail
        all_goals try clear tE
        rw [ev, hix]; rfl
end Go.Proofs.YtlmighkbeacjnaaGreatDoor


open Go Go.Lg
set_option linter.unusedSimpArgs false
set_option linter.unusedVariables false
set_option maxHeartbeats 4000000
namespace Go.Proofs.YtlmighkbeacjnaaGreatDoor
theorem tkF4 : TOK Tryz.prog (tyOf Tryz.prog) := tok Tryz.prog
def tfF40 := PLift.up (aI ty3 <| aI ty4 <| aI ty5 <| aI ty24 <| aI ty26 <| aI ty28 <| aI ty72 <| aI ty74 <| Tryz.results33)
def bigF (x : Fr) : Bool := decide (x.d.length > 100) || decide (x.pins.length > 20)
def greatF (l : List Fr) : Bool := (l.take 20).any bigF || decide (l.length > 20)
theorem pf33 (f : Fs) : PF Tryz.prog 33 [.agg f.cells] (fun r => r = .bool (greatF f.l)) := by
  refine pf_of_w0 Tryz.func33 (c := _) rfl rfl (Nat.le_of_ble_eq_true rfl) (args_1 (fsa_pur f)) ?_
  rw [show Tryz.f33.ntmps = 37 from rfl]
  have hcv : Pur (.vptr f.cells) := .vptr (fs_pur f)
  have tE := aI uU <| aI Fs.cells.eq_1 <| aI frRows_len <| tfF40.down; repeat' first | (refine Red.h ?_) | ((with_reducible first | apply wz tkF4 | apply wr_z tkF4); exact zZ; decide) | fail
  all_goals try clear tE
  refine w_loopS (S := Nat) (fun i => [(1, .vptr f.cells), (3, .int .i64 (i : Int))]) (fun _ => []) [] (fun i => i ≤ f.l.length ∧ i ≤ 20 ∧ (f.l.take 20).any bigF = ((f.l.take 20).drop i).any bigF) (fun i => 20 - i) 0 ?_ ⟨Nat.zero_le _, by decide, rfl⟩ ?_
  · (have tu0 : Pur _ := hcv; have tE := uU; exact kcanS [])
  · rintro i ⟨hi, hi20, hix⟩
    simp only [St.ofS, List.length_nil]
    have hw : IntKind.i64.wrap ((i : Int) + 1) = ((i + 1 : Nat) : Int) := by rw [wrap64 (by omega) (by omega)]; rfl
    by_cases e : i < f.l.length
    · have h1 : ((i : Int) < (f.l.length : Int)) = True := by simp; omega
      by_cases e4 : i < 20
      · have h4 : ((i : Int) < 20) = True := by simp; omega
        have h0 : (0 ≤ (i : Int)) = True := by simp
        obtain ⟨u, hu⟩ : ∃ u, f.l[i]? = some u := ⟨f.l[i], List.getElem?_eq_getElem e⟩
        have hr := fr_row hu
        have hu4 : (f.l.take 20)[i]? = some u := by rw [List.getElem?_take, if_pos e4]; exact hu
        have el4 : i < (f.l.take 20).length := by rw [List.length_take]; omega
        have hd : (f.l.take 20).drop i = u :: (f.l.take 20).drop (i + 1) := by rw [List.drop_eq_getElem_cons el4]; rw [List.getElem?_eq_getElem el4] at hu4; cases hu4; rfl
        rw [hd, List.any_cons] at hix
        by_cases hb : (u.d.length : Int) > 100
        · have hb' : ((u.d.length : Int) > 100) = True := eq_true hb
          have tE := aI uU <| aI h1 <| aI h4 <| aI h0 <| aI hr <| aI hw <| aI hb' <| aI Fs.cells.eq_1 <| aI frRows_len <| aI byteRows_len <| aI intRows_len <| tfF40.down; repeat' first | (refine Red.h ?_) | ((with_reducible first | apply wz tkF4 | apply wr_z tkF4); exact zZ; decide) | ((with_reducible first | apply wzg tkF4 | apply wr_zg tkF4); exact zU; exact zL; exact zU; exact zZ; decide) | ((with_reducible first | apply wskip' | apply wr_skip); exact zU; exact zL; exact zU; decide) | ((with_reducible first | apply w_ift'); exact zV; exact zU) | ((with_reducible apply w_ret); (repeat refine Red.h ?_); (with_reducible apply done_ret tkF4); exact zT; exact zD; exact zX) | fail
          all_goals try clear tE
          have : bigF u = true := by simp [bigF]; omega
          simp [tup, greatF, hix, this]
        · have hb' : ((u.d.length : Int) > 100) = False := eq_false hb
          by_cases hc : (u.pins.length : Int) > 20
          · have hc' : ((u.pins.length : Int) > 20) = True := eq_true hc
            have tE := aI uU <| aI h1 <| aI h4 <| aI h0 <| aI hr <| aI hw <| aI hb' <| aI hc' <| aI Fs.cells.eq_1 <| aI frRows_len <| aI byteRows_len <| aI intRows_len <| tfF40.down; repeat' first | (refine Red.h ?_) | ((with_reducible first | apply wz tkF4 | apply wr_z tkF4); exact zZ; decide) | ((with_reducible first | apply wzg tkF4 | apply wr_zg tkF4); exact zU; exact zL; exact zU; exact zZ; decide) | ((with_reducible first | apply w_ift'); exact zV; exact zU) | ((with_reducible apply w_ret); (repeat refine Red.h ?_); (with_reducible apply done_ret tkF4); exact zT; exact zD; exact zX) | fail
            all_goals try clear tE
            have : bigF u = true := by simp [bigF]; omega
            simp [tup, greatF, hix, this]
          · have hc' : ((u.pins.length : Int) > 20) = False := eq_false hc
            have tE := aI uU <| aI h1 <| aI h4 <| aI h0 <| aI hr <| aI hw <| aI hb' <| aI hc' <| aI Fs.cells.eq_1 <| aI frRows_len <| aI byteRows_len <| aI intRows_len <| tfF40.down; repeat' first | (refine Red.h ?_) | ((with_reducible first | apply wz tkF4 | apply wr_z tkF4); exact zZ; decide) | ((with_reducible first | apply wzg tkF4 | apply wr_zg tkF4); exact zU; exact zL; exact zU; exact zZ; decide) | ((with_reducible first | apply w_ift'); exact zV; exact zU) | ((with_reducible first | apply w_iff'); exact zV; exact zU) | fail
            all_goals try clear tE
            have : bigF u = false := by simp [bigF]; omega
            refine ⟨i + 1, by omega, ⟨by omega, by omega, by rw [hix]; simp [this]⟩, ?_⟩
            (have tu0 : Pur _ := hcv; have tE := uU; exact kcanS [])
      · have h4 : ((i : Int) < 20) = False := by simp; omega
        have hd : (f.l.take 20).drop i = [] := List.drop_eq_nil_iff.2 (by rw [List.length_take]; omega)
        rw [hd] at hix
        have tE := aI uU <| aI h1 <| aI h4 <| aI Fs.cells.eq_1 <| aI frRows_len <| tfF40.down; repeat' first | (refine Red.h ?_) | ((with_reducible first | apply wz tkF4 | apply wr_z tkF4); exact zZ; decide) | ((with_reducible first | apply wzg tkF4 | apply wr_zg tkF4); exact zU; exact zL; exact zU; exact zZ; decide) | ((with_reducible first | apply w_iff'); exact zV; exact zU) | ((with_reducible apply w_ret); (repeat refine Red.h ?_); (with_reducible apply done_ret tkF4); exact zT; exact zD; exact zX) | fail
        all_goals try clear tE
        simp only [tup, greatF, hix, List.any_nil, Bool.false_or]
        congr 1
        exact decide_eq_decide.2 (by omega)
    · have h1 : ((i : Int) < (f.l.length : Int)) = False := by simp; omega
      have hd : (f.l.take 20).drop i = [] := List.drop_eq_nil_iff.2 (by rw [List.length_take]; omega)
      rw [hd] at hix
      have tE := aI uU <| aI h1 <| aI Fs.cells.eq_1 <| aI frRows_len <| tfF40.down; repeat' first | (refine Red.h ?_) | ((with_reducible first | apply wz tkF4 | apply wr_z tkF4); exact zZ; decide) | ((with_reducible first | apply wskip' | apply wr_skip); exact zU; exact zL; exact zU; decide) | ((with_reducible first | apply w_iff'); exact zV; exact zU) | ((with_reducible apply w_ret); (repeat refine Red.h ?_); (with_reducible apply done_ret tkF4); exact zT; exact zD; exact zX) | fail
      all_goals try clear tE
      simp only [tup, greatF, hix, List.any_nil, Bool.false_or]
      congr 1
      exact decide_eq_decide.2 (by omega)
theorem pf23 (a b : List UInt8) : PF Tryz.prog 23 [.view (byteRows a), .view (byteRows b)] (fun r => r = .bool (decide (a = b))) := by
  refine pf_of_w0 Tryz.func23 (c := _) rfl rfl (Nat.le_of_ble_eq_true rfl) (args_2 (byteRows_pur a) (byteRows_pur b)) ?_
  rw [show Tryz.f23.ntmps = 10 from rfl]
  have tE := aI uU <| aI ty5 <| aI ty9 <| aI ty28 <| Tryz.results23; repeat' first | (refine Red.h ?_) | ((with_reducible first | apply wz tkF4 | apply wr_z tkF4); exact zZ; decide) | ((with_reducible first | apply wp | apply wr_p); (focus (first | ((with_reducible first | apply p_slv tkF4); exact zT; exact zU; exact zT; exact zV; exact zN; exact zN; (focus (first | exact zU | exact zB)); (focus (first | exact zU | exact zB)); (focus (first | exact zU | assumption))) | ((with_reducible first | apply p_slo tkF4); exact zT; exact zU; exact zT; exact zV; exact zN; exact zN; (focus (first | exact zU | exact zB)); (focus (first | exact zU | exact zB)); (focus (first | exact zU | assumption))) | ((with_reducible first | apply p_nil tkF4 | apply p_nnil tkF4); exact zT; exact zV; exact zU) | ((with_reducible first | apply p_bs0 tkF4); exact zT; exact zU; exact zT) | ((with_reducible first | apply p_ap0 tkF4); exact zT; exact zU; exact zT; exact zT; exact zU; exact zA; exact zV; (focus (first | exact Or.inl rfl | exact Or.inr rfl))) | ((with_reducible first | apply p_bytes tkF4); exact zT; exact zU; exact zT; exact zU; exact zT; exact zU; exact zV))); decide) | ((with_reducible apply w_ret); (repeat refine Red.h ?_); (with_reducible apply done_ret tkF4); exact zT; exact zD; exact zX) | fail
  all_goals try clear tE
  all_goals first | (simp_all [tup]; done) | (simp_all [tup]; rw [Bool.eq_iff_iff]; simp)
end Go.Proofs.YtlmighkbeacjnaaGreatDoor


