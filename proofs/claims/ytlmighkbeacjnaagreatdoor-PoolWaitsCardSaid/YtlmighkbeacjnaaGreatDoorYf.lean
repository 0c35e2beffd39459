/- Frames in own memory as rows; Find. Frames in own memory, as cells; bytes and pins written over. What turning a frame tells; answers in new memory that are compared. Frames behind what was served, and the reference's. pool.Served: an answer in new memory. -/
import Derived.Test.YtlmighkbeacjnaaGreatDoorLm5
import Derived.Test.YtlmighkbeacjnaaGreatDoorYd
import Derived.Test.YtlmighkbeacjnaaGreatDoorLm6
import Derived.Test.YtlmighkbeacjnaaGreatDoorYe

open Go Go.Lg
set_option linter.unusedSimpArgs false
set_option linter.unusedVariables false
set_option maxHeartbeats 4000000
set_option maxRecDepth 20000
namespace Go.Proofs.YtlmighkbeacjnaaGreatDoor
theorem tkG7 : TOK Tryz.prog (tyOf Tryz.prog) := tok Tryz.prog
def tfG70 := PLift.up (aI ty3 <| aI ty4 <| aI ty5 <| aI ty23 <| aI ty24 <| aI ty26 <| aI ty28 <| aI ty34 <| aI ty72 <| aI ty74 <| Tryz.results59)
theorem args_3i {c : Cf} {f : Fs} {p : Int} : ∀ x, x ∈ [AV.agg c.cells, .agg f.cells, .int .i64 p] → Pur x := args_3 (cf_pur c) (fsa_pur f) (.int _ _)
theorem pf59_ok (c : Cf) (f : Fs) (page : Int) (hl : f.l.length ≤ 1000000) (hd : ∀ x, x ∈ f.l → x.pins.length ≤ 1000000) (hok : okF c f = true) (a : Nat) (ha : fidx (isAt page) f.l 0 = a) : PF Tryz.prog 59 [.agg c.cells, .agg f.cells, .int .i64 page] (fun r => r = .tuple [.int .i64 a, .bool true]) := by
  have ev : eF c f = 0 := by simp [eF, hok]
  have h11 := pf43 c f hl hd
  have h58 := pf103 f page hl
  rw [ha] at h58
  refine pf_of_w0 Tryz.func59 (c := _) rfl rfl (Nat.le_of_ble_eq_true rfl) args_3i ?_
  rw [show Tryz.f59.ntmps = 20 from rfl]
  have g1 : ((a : Int) ≥ 0) = True := eq_true (by omega)
  have hmx : max (a : Int) 0 = a := by omega
  have tE := aI uU <| aI Cf.cells.eq_1 <| aI Fs.cells.eq_1 <| aI ev <| aI g1 <| aI hmx <| tfG70.down; repeat' first | (refine Red.h ?_) | ((with_reducible first | apply wz tkG7 | apply wr_z tkG7); exact zZ; decide) | ((with_reducible first | apply wcall' | apply wr_call); exact zV; exact zVs; exact zAs; (focus (with_unfolding_all first | exact h11 | exact h58)); decide) | ((with_reducible first | apply wp | apply wr_p); (focus (first | ((with_reducible first | apply pure_max); exact zV; exact zV) | ((with_reducible first | apply pure_bs1 tkG7); exact zT; exact zU; exact zT; exact zP; exact zR; exact zC; decide; decide; exact zU; exact zU))); decide) | ((with_reducible first | apply w_iff'); exact zV; exact zU) | ((with_reducible apply w_ret); (repeat refine Red.h ?_); (with_reducible apply done_ret tkG7); exact zT; exact zD; exact zX) | fail
  all_goals try clear tE
  have hn : ¬ (0 > (a : Int)) := by omega
  simp only [tup, if_neg hn]
theorem pf59_bad (c : Cf) (f : Fs) (page : Int) (hl : f.l.length ≤ 1000000) (hd : ∀ x, x ∈ f.l → x.pins.length ≤ 1000000) (hok : okF c f = false) : PF Tryz.prog 59 [.agg c.cells, .agg f.cells, .int .i64 page] (fun r => r = .tuple [.int .i64 0, .bool false]) := by
  have ev : eF c f = 8 := by simp [eF, hok]
  have h11 := pf43 c f hl hd
  refine pf_of_w0 Tryz.func59 (c := _) rfl rfl (Nat.le_of_ble_eq_true rfl) args_3i ?_
  rw [show Tryz.f59.ntmps = 20 from rfl]
  have tE := aI uU <| aI Cf.cells.eq_1 <| aI Fs.cells.eq_1 <| aI ev <| tfG70.down; repeat' first | (refine Red.h ?_) | ((with_reducible first | apply wz tkG7 | apply wr_z tkG7); exact zZ; decide) | ((with_reducible first | apply wcall' | apply wr_call); exact zV; exact zVs; exact zAs; (focus (with_unfolding_all first | exact h11)); decide) | ((with_reducible first | apply w_ift'); exact zV; exact zU) | ((with_reducible apply w_ret); (repeat refine Red.h ?_); (with_reducible apply done_ret tkG7); exact zT; exact zD; exact zX) | fail
  all_goals try clear tE
  rfl
end Go.Proofs.YtlmighkbeacjnaaGreatDoor


open Go Go.Lg
set_option linter.unusedSimpArgs false
set_option linter.unusedVariables false
set_option maxHeartbeats 4000000
set_option maxRecDepth 20000
namespace Go.Proofs.YtlmighkbeacjnaaGreatDoor
/-- Frames that a function hands back in new memory. -/
theorem own_fs {H : Heap} {S : Nat → Prop} {x : AV} {f : Fs} (h : Own H S x (.agg f.cells)) : ∃ a, x = .agg [a, .int .i64 f.h] ∧ Own H S a (.view (frRows f.l)) := by
  obtain ⟨xs, rfl, h1⟩ := h.agg_inv
  obtain ⟨a, r, rfl, ha, h2⟩ := h1.cons_inv
  obtain ⟨b, r, rfl, hb, h3⟩ := h2.cons_inv
  have := h3.nil_inv
  subst this
  rw [hb.int_inv]
  exact ⟨a, rfl, ha⟩
theorem good_nums {c : Cf} (h : c.good = true) : ∃ n fr : Nat, c.cl = (n : Int) ∧ c.fr = (fr : Int) ∧ (1 ≤ n ∧ n ≤ 4) ∧ 1 ≤ fr ∧ fr ≤ 8 := by
  have hok : c.ok = true := by simp only [Cf.good, Bool.and_eq_true] at h; exact h.1
  have hall : ∀ x, x ∈ c.spans → inB x = true := by simpa [Cf.ok] using hok
  simp only [Cf.spans, List.mem_cons, List.not_mem_nil, or_false, forall_eq_or_imp, forall_eq, inB] at hall
  simp at hall
  exact ⟨c.cl.toNat, c.fr.toNat, by omega, by omega, by omega, by omega, by omega⟩
end Go.Proofs.YtlmighkbeacjnaaGreatDoor


open Go Go.Lg
set_option linter.unusedSimpArgs false
set_option linter.unusedVariables false
set_option maxHeartbeats 4000000
set_option maxRecDepth 20000
namespace Go.Proofs.YtlmighkbeacjnaaGreatDoor
theorem own_turn {H : Heap} {S : Nat → Prop} {x : AV} {f : Fs} {e : Int} (h : Own H S x (.tuple [.agg f.cells, .int .i64 e])) : ∃ a, x = .tuple [.agg [a, .int .i64 f.h], .int .i64 e] ∧ Own H S a (.view (frRows f.l)) := by
  obtain ⟨xs, rfl, h1⟩ := h.tuple_inv
  obtain ⟨x1, r1, rfl, h2, h3⟩ := h1.cons_inv
  obtain ⟨x2, r2, rfl, h4, h5⟩ := h3.cons_inv
  obtain rfl := h5.nil_inv
  obtain rfl := h4.int_inv
  obtain ⟨a, rfl, ho⟩ := own_fs h2
  exact ⟨a, rfl, ho⟩
end Go.Proofs.YtlmighkbeacjnaaGreatDoor


open Go Go.Lg
set_option linter.unusedSimpArgs false
set_option linter.unusedVariables false
set_option maxHeartbeats 4000000
set_option maxRecDepth 20000
namespace Go.Proofs.YtlmighkbeacjnaaGreatDoor
/-- What is served: a unit, and bytes. -/
def dnC (u : Un) (data : List UInt8) : List AV := [.int .u8 u.k, .int .i64 u.p, .int .i64 u.f, .view (byteRows u.d), .view (byteRows data)]
theorem args_5 {a b c d e : AV} (ha : Pur a) (hb : Pur b) (hc : Pur c) (hd : Pur d) (he : Pur e) : ∀ x, x ∈ [a, b, c, d, e] → Pur x := fun x hx => by
  simp only [List.mem_cons, List.not_mem_nil, or_false] at hx
  rcases hx with rfl | rfl | rfl | rfl | rfl <;> assumption
theorem dn_pur (u : Un) (data : List UInt8) : Pur (.agg (dnC u data)) := .agg (args_5 (.int _ _) (.int _ _) (.int _ _) (byteRows_pur _) (byteRows_pur _))
def srvE (c : Cf) (f : Fs) (u : Un) (data : List UInt8) : Int := if okF c f = true then (if mayU c u = true then (if u.k = 2 then 0 else if f.l[u.f.toNat]?.map Fr.p = some u.p then turnE c f u.f (fillE c data) else 2) else 2) else 8
def srvF (c : Cf) (f : Fs) (u : Un) (data : List UInt8) : Fs := if okF c f = true then (if mayU c u = true then (if u.k = 2 then f else if f.l[u.f.toNat]?.map Fr.p = some u.p then turnF c f u.f (fillE c data) (fillV data) else ⟨[], 0⟩) else ⟨[], 0⟩) else ⟨[], 0⟩
theorem wide_qok {c : Cf} (u : Un) (hg : c.good = true) : qok { c with q := 16 } [u] = mayU c u := by
  have h1 : Cf.good { c with q := 16 } = true := by
    simp only [Cf.good, Bool.and_eq_true, decide_eq_true_eq] at hg ⊢
    refine ⟨?_, hg.2⟩
    have hall : ∀ x, x ∈ c.spans → inB x = true := by simpa [Cf.ok] using hg.1
    simp only [Cf.spans, List.mem_cons, List.not_mem_nil, or_false, forall_eq_or_imp, forall_eq] at hall
    simp only [Cf.ok, Cf.spans, List.all_cons, List.all_nil, Bool.and_true, hall, Bool.true_and, Bool.and_self]
    decide
  simp only [qok, h1, Bool.true_and, List.all_cons, List.all_nil, Bool.and_true, List.length_cons, List.length_nil]
  have : mayU { c with q := 16 } u = mayU c u := rfl
  rw [this]
  simp
end Go.Proofs.YtlmighkbeacjnaaGreatDoor


open Go Go.Lg
set_option linter.unusedSimpArgs false
set_option linter.unusedVariables false
set_option maxHeartbeats 4000000
set_option maxRecDepth 20000
namespace Go.Proofs.YtlmighkbeacjnaaGreatDoor
theorem tkJB : TOK Tryz.prog (tyOf Tryz.prog) := tok Tryz.prog
def tfJB0 := PLift.up (aI ty3 <| aI ty4 <| aI ty5 <| aI ty23 <| aI ty24 <| aI ty26 <| aI ty27 <| aI ty28 <| aI ty34 <| aI ty58 <| aI ty69 <| aI ty72 <| aI ty74 <| Tryz.results32)
theorem nf32 (c : Cf) (f : Fs) (u : Un) (data : List UInt8) (hl : f.l.length ≤ 1000000) (hd : ∀ x, x ∈ f.l → x.d.length ≤ 1000000 ∧ x.pins.length ≤ 1000000) (hdl : data.length ≤ 1000000) : NF Tryz.prog 32 [.agg c.cells, .agg f.cells, .agg (dnC u data)] (fun r => r = .tuple [.agg (srvF c f u data).cells, .int .i64 (srvE c f u data)]) := by
  have h11 := pf43 c f hl (fun x hx => (hd x hx).2)
  refine nf_of_w0 Tryz.func32 (c := _) rfl rfl (Nat.le_of_ble_eq_true rfl) (args_3 (cf_pur c) (fsa_pur f) (dn_pur u data)) ?_
  rw [show Tryz.f32.ntmps = 53 from rfl]
  cases hok : okF c f with
  | false =>
    have ev : eF c f = 8 := by simp [eF, hok]
    rw [ev] at h11
    have tE := aI uU <| aI Cf.cells.eq_1 <| aI Fs.cells.eq_1 <| aI dnC.eq_1 <| tfJB0.down; repeat' first | (refine Red.h ?_) | ((with_reducible first | apply wz tkJB | apply wr_z tkJB); exact zZ; decide) | ((with_reducible first | apply w_alloc tkJB); exact zT; decide) | ((with_reducible first | apply w_store tkJB); exact zV; exact zV; exact zS) | ((with_reducible first | apply wcall' | apply wr_call); exact zV; exact zVs; exact zAs; (focus (with_unfolding_all first | exact h11)); decide) | ((with_reducible first | apply w_ift'); exact zV; exact zU) | ((with_reducible apply w_ret); (repeat refine Red.h ?_); (with_reducible first | apply donef_ret tkJB | apply doneA_ret tkJB); exact zT; exact zD) | fail
    all_goals try clear tE
    exact ⟨_, _, rfl, zero_own _ _ 8, by simp only [srvE, srvF, hok, Bool.false_eq_true, if_false]⟩
  | true =>
    have ev : eF c f = 0 := by simp [eF, hok]
    rw [ev] at h11
    obtain ⟨k1, k2, k3, k4, k5⟩ := okF_parts hok
    have h53 := pf44 { c with q := 16 } [u] (by simp)
    rw [wide_qok u k1] at h53
    simp only [Cf.cells, unRows, List.map_cons, List.map_nil, Un.cells] at h53
    cases hm : mayU c u with
    | false =>
      rw [hm, if_neg (by decide)] at h53
      have tE := aI uU <| aI Cf.cells.eq_1 <| aI Fs.cells.eq_1 <| aI dnC.eq_1 <| tfJB0.down; repeat' first | (refine Red.h ?_) | ((with_reducible first | apply wz tkJB | apply wr_z tkJB); exact zZ; decide) | ((with_reducible first | apply w_alloc tkJB); exact zT; decide) | ((with_reducible first | apply w_store tkJB); exact zV; exact zV; exact zS) | ((with_reducible first | apply wcall' | apply wr_call); exact zV; exact zVs; exact zAs; (focus (with_unfolding_all first | exact h11 | exact h53)); decide) | ((with_reducible first | apply wp | apply wr_p); (focus (first | ((with_reducible first | apply pure_bs1 tkJB); exact zT; exact zU; exact zT; exact zP; exact zR; exact zC; decide; decide; exact zU; exact zU))); decide) | ((with_reducible first | apply w_ift'); exact zV; exact zU) | ((with_reducible first | apply w_iff'); exact zV; exact zU) | ((with_reducible apply w_ret); (repeat refine Red.h ?_); (with_reducible first | apply donef_ret tkJB | apply doneA_ret tkJB); exact zT; exact zD) | fail
      all_goals try clear tE
      exact ⟨_, _, rfl, zero_own _ _ 2, by simp only [srvE, srvF, hok, hm, Bool.false_eq_true, if_false, if_true]⟩
    | true =>
      rw [hm, if_pos rfl] at h53
      obtain ⟨m1, m2, m3⟩ := mayU_parts hm
      by_cases hk : u.k = 2
      · have g1 : (u.k == 2) = true := by simp [hk]
        have h36 := nf40 f hl hd
        have tE := aI uU <| aI Cf.cells.eq_1 <| aI Fs.cells.eq_1 <| aI dnC.eq_1 <| aI g1 <| tfJB0.down; repeat' first | (refine Red.h ?_) | ((with_reducible first | apply wz tkJB | apply wr_z tkJB); exact zZ; decide) | ((with_reducible first | apply w_alloc tkJB); exact zT; decide) | ((with_reducible first | apply w_store tkJB); exact zV; exact zV; exact zS) | ((with_reducible first | apply wcall' | apply wr_call); exact zV; exact zVs; exact zAs; (focus (with_unfolding_all first | exact h11 | exact h53)); decide) | ((with_reducible first | apply wp | apply wr_p); (focus (first | ((with_reducible first | apply pure_bs1 tkJB); exact zT; exact zU; exact zT; exact zP; exact zR; exact zC; decide; decide; exact zU; exact zU))); decide) | ((with_reducible first | apply w_ift'); exact zV; exact zU) | ((with_reducible first | apply w_iff'); exact zV; exact zU) | fail
        all_goals try clear tE
        (have tE := aI uU <| aI Cf.cells.eq_1 <| Fs.cells.eq_1; (with_reducible apply wacall); exact zV; exact zVs; exact zAs; exact h36.cal; (focus (with_unfolding_all exact h36.ac _ _)); decide; clear tE)
        rintro r H1 k1 ⟨hn1, hold1, htop1, x, y, rfl, hown1, rfl⟩
        obtain ⟨a1, rfl, ho⟩ := own_fs hown1
        clear hown1
        have hn1 : 3 ≤ k1 := hn1
        have ho : Own H1 (3 ≤ ·) a1 (.view (frRows f.l)) := ho
        have e0 : H1 0 = some (.cells [.empty, .int .i64 (Int.ofNat 0)] 26) := hold1 0 _ rfl
        have z1 := (own_scal ho).1
        simp only [scalA] at z1
        clear hold1
        have tE := aI uU <| aI Cf.cells.eq_1 <| aI Fs.cells.eq_1 <| aI dnC.eq_1 <| aI g1 <| aI e0 <| aI z1 <| tfJB0.down; repeat' first | (refine Red.h ?_) | ((with_reducible first | apply wz tkJB | apply wr_z tkJB); exact zZ; decide) | ((with_reducible first | apply w_store tkJB); exact zV; exact zV; exact zS) | ((with_reducible apply w_ret); (repeat refine Red.h ?_); (with_reducible first | apply donef_ret tkJB | apply doneA_ret tkJB); exact zT; exact zD) | fail
        all_goals try clear tE
        refine ⟨_, _, rfl, OwnL.tuple (.cons (OwnL.agg (.cons (ho.mv fun id b hid hb => ⟨trivial, ?_⟩) (.cons (.int _ _) .nil))) (.cons (.int _ _) .nil)), ?_⟩
        · have hid : 3 ≤ id := hid
          rw [upd_ne _ _ (by omega)]; exact hb
        · simp only [srvE, srvF, hok, hm, hk, if_true]; rfl
      · have hk1 : u.k = 1 := by omega
        have g1 : (u.k == 2) = false := by simp [hk]
        obtain ⟨a, ha⟩ : ∃ a : Nat, u.f = a := ⟨u.f.toNat, by omega⟩
        have hal : a < f.l.length := by omega
        obtain ⟨x, hx⟩ : ∃ x, f.l[a]? = some x := ⟨_, List.getElem?_eq_getElem hal⟩
        have hr := fr_row hx
        have c0 : (0 ≤ (a : Int)) = True := by simp
        have c1 : ((a : Int) < (f.l.length : Int)) = True := by simp; omega
        rw [ha] at h53
        by_cases hp : x.p = u.p
        · have g3 : (x.p != u.p) = false := by simp [hp]
          have h23 := nf55 c f (a : Int) data hl hd hdl
          have tE := aI uU <| aI Cf.cells.eq_1 <| aI Fs.cells.eq_1 <| aI Fr.cells.eq_1 <| aI dnC.eq_1 <| aI frRows_len <| aI g1 <| aI g3 <| aI ha <| aI hr <| aI c0 <| aI c1 <| tfJB0.down; repeat' first | (refine Red.h ?_) | ((with_reducible apply w_live (lvAt [[0, 1, 2], [3, 4, 5, 6], [3, 4, 5, 6, 8], [6, 8], [3, 4, 5, 6], [3, 4, 5, 6, 9], [3, 4, 5, 6, 9, 10], [3, 4, 5, 6, 9, 10], [6], [3, 4, 5, 6, 9], [4, 6], [3, 4, 5, 6, 9], [6], [3, 4, 5, 6, 9]])); (focus (simp only [lvAt_zero, lvAt_succ]; rfl)); exact zLv) | ((with_reducible first | apply wz tkJB | apply wr_z tkJB); exact zZ; decide) | ((with_reducible first | apply w_alloc tkJB); exact zT; decide) | ((with_reducible first | apply w_store tkJB); exact zV; exact zV; exact zS) | ((with_reducible first | apply wcall' | apply wr_call); exact zV; exact zVs; exact zAs; (focus (with_unfolding_all first | exact h11 | exact h53)); decide) | ((with_reducible first | apply wp | apply wr_p); (focus (first | ((with_reducible first | apply pure_bs1 tkJB); exact zT; exact zU; exact zT; exact zP; exact zR; exact zC; decide; decide; exact zU; exact zU))); decide) | ((with_reducible first | apply w_iff'); exact zV; exact zU) | ((with_reducible first | apply w_draw0 mixed); (focus (decide +kernel))) | fail
          all_goals try clear tE
          (have tE := aI uU <| aI Cf.cells.eq_1 <| Fs.cells.eq_1; (with_reducible apply wacall); exact zV; exact zVs; exact zAs; exact h23.cal; (focus (with_unfolding_all exact h23.ac _ _)); decide; clear tE)
          rintro r H1 k1 ⟨hn1, hold1, htop1, x', y, rfl, hown1, rfl⟩
          obtain ⟨a1, rfl, ho⟩ := own_turn hown1
          clear hown1
          have hn1 : 3 ≤ k1 := hn1
          have ho : Own H1 (3 ≤ ·) a1 (.view (frRows (turnF c f (a : Int) (fillE c data) (fillV data)).l)) := ho
          have e0 : H1 0 = some (.cells [.empty, .int .i64 (Int.ofNat 0)] 26) := hold1 0 _ rfl
          have z1 := (own_scal ho).1
          simp only [scalA] at z1
          clear hold1
          have hE : srvE c f u data = turnE c f (a : Int) (fillE c data) := by
            simp only [srvE, hok, hm, if_true, if_neg hk, ha, Int.toNat_natCast, hx, Option.map_some, Option.some.injEq, hp]
          have hF : srvF c f u data = turnF c f (a : Int) (fillE c data) (fillV data) := by
            simp only [srvF, hok, hm, if_true, if_neg hk, ha, Int.toNat_natCast, hx, Option.map_some, Option.some.injEq, hp]
          rw [hE, hF]
          generalize turnF c f (a : Int) (fillE c data) (fillV data) = F1 at ho z1 ⊢
          generalize turnE c f (a : Int) (fillE c data) = E1
          have tE := aI uU <| aI e0 <| aI z1 <| tfJB0.down; repeat' first | (refine Red.h ?_) | ((with_reducible first | apply wz tkJB | apply wr_z tkJB); exact zZ; decide) | ((with_reducible first | apply w_store tkJB); exact zV; exact zV; exact zS) | ((with_reducible apply w_ret); (repeat refine Red.h ?_); (with_reducible first | apply donef_ret tkJB | apply doneA_ret tkJB); exact zT; exact zD) | fail
          all_goals try clear tE
          refine ⟨_, _, rfl, OwnL.tuple (.cons (OwnL.agg (.cons (ho.mv fun id b hid hb => ⟨trivial, ?_⟩) (.cons (.int _ _) .nil))) (.cons (.int _ _) .nil)), rfl⟩
          have hid : 3 ≤ id := hid
          rw [upd_ne _ _ (by omega)]; exact hb
        · have g3 : (x.p != u.p) = true := by simp [hp]
          have tE := aI uU <| aI Cf.cells.eq_1 <| aI Fs.cells.eq_1 <| aI Fr.cells.eq_1 <| aI dnC.eq_1 <| aI frRows_len <| aI g1 <| aI g3 <| aI ha <| aI hr <| aI c0 <| aI c1 <| tfJB0.down; repeat' first | (refine Red.h ?_) | ((with_reducible apply w_live (lvAt [[0, 1, 2], [3, 4, 5, 6], [3, 4, 5, 6, 8], [6, 8], [3, 4, 5, 6], [3, 4, 5, 6, 9], [3, 4, 5, 6, 9, 10], [3, 4, 5, 6, 9, 10], [6], [3, 4, 5, 6, 9], [4, 6], [3, 4, 5, 6, 9], [6], [3, 4, 5, 6, 9]])); (focus (simp only [lvAt_zero, lvAt_succ]; rfl)); exact zLv) | ((with_reducible first | apply wz tkJB | apply wr_z tkJB); exact zZ; decide) | ((with_reducible first | apply w_alloc tkJB); exact zT; decide) | ((with_reducible first | apply w_store tkJB); exact zV; exact zV; exact zS) | ((with_reducible first | apply wcall' | apply wr_call); exact zV; exact zVs; exact zAs; (focus (with_unfolding_all first | exact h11 | exact h53)); decide) | ((with_reducible first | apply wp | apply wr_p); (focus (first | ((with_reducible first | apply pure_bs1 tkJB); exact zT; exact zU; exact zT; exact zP; exact zR; exact zC; decide; decide; exact zU; exact zU))); decide) | ((with_reducible first | apply w_ift'); exact zV; exact zU) | ((with_reducible first | apply w_iff'); exact zV; exact zU) | ((with_reducible first | apply w_draw0 mixed); (focus (decide +kernel))) | ((with_reducible apply w_ret); (repeat refine Red.h ?_); (with_reducible first | apply donef_ret tkJB | apply doneA_ret tkJB); exact zT; exact zD) | fail
          all_goals try clear tE
          exact ⟨_, _, rfl, zero_own _ _ 2, by simp only [srvE, srvF, hok, hm, if_true, if_neg hk, ha, Int.toNat_natCast, hx, Option.map_some, Option.some.injEq, if_neg hp]⟩
end Go.Proofs.YtlmighkbeacjnaaGreatDoor


