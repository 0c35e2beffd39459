/- PoolServes, the plain law: frames and a queue that go together, and what a page has. pool.Check: do frames and a queue go together? What a page has: under, content, sound, great. -/
import Derived.Test.YtlmighkbeacjnaaGreatDoorYd
import Derived.Test.YtlmighkbeacjnaaGreatDoorLm5
import Derived.Test.YtlmighkbeacjnaaGreatDoorLm6

open Go Go.Lg
set_option linter.unusedSimpArgs false
set_option linter.unusedVariables false
set_option maxHeartbeats 4000000
namespace Go.Proofs.YtlmighkbeacjnaaGreatDoor
/-- Do frames and a queue go together? -/
structure Tog (f : Fs) (q : List Un) : Prop where
  wr : ∀ (i j : Nat) u v, i < j → q[i]? = some u → q[j]? = some v → u.k = 1 → v.k = 2 → u.p ≠ v.p
  ld : ∀ (i : Nat) u, q[i]? = some u → u.k = 1 → ∃ x, f.l[u.f.toNat]? = some x ∧ x.k = 1 ∧ x.p = u.p
  one : ∀ (i : Nat) x, f.l[i]? = some x → x.k = 1 → (q.filter fun u : Un => decide (u.k = 1 ∧ u.f = (i : Int))).length = 1
/-- What the queue and the store tell of a page. -/
def underL (q : List Un) (b : List UInt8) (p : Int) : List UInt8 := match q with
  | [] => b
  | u :: q => underL q (if u.k = 2 ∧ u.p = p then u.d else b) p
def baseAt (base : List (List UInt8)) (p : Int) : List UInt8 := base.getD p.toNat []
def under (q : List Un) (base : List (List UInt8)) (p : Int) : List UInt8 := underL q (baseAt base p) p
def isReady (p : Int) (x : Fr) : Bool := decide (x.k = 2 ∧ x.p = p)
def content (f : Fs) (q : List Un) (base : List (List UInt8)) (p : Int) : List UInt8 := match f.l.find? (isReady p) with
  | some x => x.d
  | none => under q base p
theorem mayU_parts {c : Cf} {u : Un} (h : mayU c u = true) : (u.k = 2 ∨ u.k = 1) ∧ 0 ≤ u.f ∧ u.f < c.fr := by
  simp only [mayU, decide_eq_true_eq] at h
  exact ⟨by rcases h.1 with h | h; exact .inl h.1; exact .inr h.1, h.2.2.2⟩
end Go.Proofs.YtlmighkbeacjnaaGreatDoor


open Go Go.Lg
set_option linter.unusedSimpArgs false
set_option linter.unusedVariables false
set_option maxHeartbeats 8000000
set_option maxRecDepth 20000
namespace Go.Proofs.YtlmighkbeacjnaaGreatDoor
theorem tkP2 : TOK Tryz.prog (tyOf Tryz.prog) := tok Tryz.prog
def tfP20 := PLift.up (aI ty3 <| aI ty4 <| aI ty5 <| aI ty23 <| aI ty24 <| aI ty26 <| aI ty27 <| aI ty28 <| aI ty34 <| aI ty58 <| aI ty72 <| aI ty74 <| aI ty89 <| Tryz.results15)
def cntF (q : List Un) (i : Nat) (k : Int) : Int := (((q.take i).filter fun u : Un => decide (u.k = 1 ∧ u.f = k)).length : Nat)
def cntP (q : List Un) (i : Nat) (p : Int) : Int := (((q.take i).filter fun u : Un => decide (u.k = 1 ∧ u.p = p)).length : Nat)
theorem cntF_next {q : List Un} {i : Nat} {u : Un} (h : q[i]? = some u) (k : Int) : cntF q (i + 1) k = cntF q i k + (if u.k = 1 ∧ u.f = k then 1 else 0) := by
  have : q.take (i + 1) = q.take i ++ [u] := by rw [List.take_add_one, h]; rfl
  unfold cntF
  rw [this, List.filter_append, List.length_append, List.filter_cons]
  by_cases e : u.k = 1 ∧ u.f = k
  · rw [if_pos (by simpa using e), if_pos e]; simp
  · rw [if_neg (by simpa using e), if_neg e]; simp
theorem cntP_next {q : List Un} {i : Nat} {u : Un} (h : q[i]? = some u) (p : Int) : cntP q (i + 1) p = cntP q i p + (if u.k = 1 ∧ u.p = p then 1 else 0) := by
  have : q.take (i + 1) = q.take i ++ [u] := by rw [List.take_add_one, h]; rfl
  unfold cntP
  rw [this, List.filter_append, List.length_append, List.filter_cons]
  by_cases e : u.k = 1 ∧ u.p = p
  · rw [if_pos (by simpa using e), if_pos e]; simp
  · rw [if_neg (by simpa using e), if_neg e]; simp
theorem cntF_le (q : List Un) (i : Nat) (k : Int) : 0 ≤ cntF q i k ∧ cntF q i k ≤ i := by
  have h1 := List.length_filter_le (fun u : Un => decide (u.k = 1 ∧ u.f = k)) (q.take i)
  rw [List.length_take] at h1
  unfold cntF; omega
theorem cntP_le (q : List Un) (i : Nat) (k : Int) : 0 ≤ cntP q i k ∧ cntP q i k ≤ i := by
  have h1 := List.length_filter_le (fun u : Un => decide (u.k = 1 ∧ u.p = k)) (q.take i)
  rw [List.length_take] at h1
  unfold cntP; omega
theorem cntP_pos {q : List Un} {i : Nat} {p : Int} (h : cntP q i p > 0) : ∃ (a : Nat) (u : Un), a < i ∧ q[a]? = some u ∧ u.k = 1 ∧ u.p = p := by
  unfold cntP at h
  obtain ⟨u, hu⟩ := List.exists_mem_of_length_pos (l := (q.take i).filter fun u : Un => decide (u.k = 1 ∧ u.p = p)) (by omega)
  obtain ⟨h1, h2⟩ := List.mem_filter.1 hu
  simp only [decide_eq_true_eq] at h2
  obtain ⟨a, ha, rfl⟩ := List.getElem_of_mem h1
  rw [List.length_take] at ha
  refine ⟨a, _, by omega, ?_, h2.1, h2.2⟩
  rw [List.getElem_take, List.getElem?_eq_getElem (by omega)]
theorem cntP_zero {q : List Un} {i : Nat} {p : Int} (h : ¬ cntP q i p > 0) {a : Nat} {u : Un} (ha : a < i) (hu : q[a]? = some u) (hk : u.k = 1) : u.p ≠ p := fun e => by
  have h0 : (q.take i).filter (fun u : Un => decide (u.k = 1 ∧ u.p = p)) = [] := by
    refine List.eq_nil_of_length_eq_zero ?_
    unfold cntP at h; omega
  rw [List.filter_eq_nil_iff] at h0
  have hm : u ∈ q.take i := List.mem_of_getElem? (i := a) (by rw [List.getElem?_take_of_lt ha]; exact hu)
  exact h0 u hm (by simp [hk, e])
open Classical in
/-- What pool.Check tells. -/
noncomputable def eT (c : Cf) (f : Fs) (q : List Un) : Int := if okF c f = true ∧ qok c q = true ∧ Tog f q then 0 else 8
structure TgI (f : Fs) (q : List Un) (i : Nat) (H : Heap) (k : Nat) : Prop where
  le : i ≤ q.length
  k2 : 2 ≤ k
  maps : ∃ M Pg, H 0 = some (.map (entM .i64 .i64 M)) ∧ H 1 = some (.map (entM .i64 .i64 Pg)) ∧ NodK M ∧ NodK Pg ∧ (∀ x, getC M x = cntF q i x) ∧ ∀ x, getC Pg x = cntP q i x
  wr : ∀ (a b : Nat) u v, a < b → b < i → q[a]? = some u → q[b]? = some v → u.k = 1 → v.k = 2 → u.p ≠ v.p
  ld : ∀ (a : Nat) u, a < i → q[a]? = some u → u.k = 1 → ∃ x, f.l[u.f.toNat]? = some x ∧ x.k = 1 ∧ x.p = u.p
theorem tg_skip {f : Fs} {q : List Un} {i k k' : Nat} {H H' : Heap} {u : Un} (hI : TgI f q i H k) (hu : q[i]? = some u) (hk : u.k = 2) (hno : ¬ cntP q i u.p > 0) (h0 : ∀ id, id < 2 → H' id = H id) (hk' : 2 ≤ k') : TgI f q (i + 1) H' k' := by
  obtain ⟨hi, hk2, ⟨M, Pg, e0, e1, nM, nP, gM, gP⟩, hwr, hld⟩ := hI
  have hil := (List.getElem?_eq_some_iff.1 hu).1
  refine ⟨by omega, hk', ⟨M, Pg, by rw [h0 0 (by omega)]; exact e0, by rw [h0 1 (by omega)]; exact e1, nM, nP, fun x => by rw [gM, cntF_next hu, if_neg (fun h => by omega), Int.add_zero], fun x => by rw [gP, cntP_next hu, if_neg (fun h => by omega), Int.add_zero]⟩, fun a b v w hab hb hv hw h1 h2 => ?_, fun a v ha hv h1 => ?_⟩
  · rcases Nat.lt_or_ge b i with h | h
    · exact hwr a b v w hab h hv hw h1 h2
    · obtain rfl : b = i := by omega
      rw [hu] at hw; cases hw
      exact cntP_zero hno hab hv h1
  · rcases Nat.lt_or_ge a i with h | h
    · exact hld a v h hv h1
    · obtain rfl : a = i := by omega
      rw [hu] at hv; cases hv
      omega
theorem tg_fetch {f : Fs} {q : List Un} {i k k' : Nat} {H H' : Heap} {u : Un} {M Pg M' P' : List (Int × Int)} {x : Fr} (hI : TgI f q i H k) (hu : q[i]? = some u) (hk : u.k = 1) (hx : f.l[u.f.toNat]? = some x) (hx1 : x.k = 1) (hx2 : x.p = u.p) (gM : ∀ x, getC M x = cntF q i x) (gP : ∀ x, getC Pg x = cntP q i x)
    (h0 : H' 0 = some (.map (entM .i64 .i64 M'))) (h1 : H' 1 = some (.map (entM .i64 .i64 P'))) (nM : NodK M') (nP : NodK P') (a1 : getC M' u.f = getC M u.f + 1) (a2 : ∀ y, y ≠ u.f → getC M' y = getC M y) (b1 : getC P' u.p = getC Pg u.p + 1) (b2 : ∀ y, y ≠ u.p → getC P' y = getC Pg y) (hk' : 2 ≤ k') : TgI f q (i + 1) H' k' := by
  obtain ⟨hi, hk2, _, hwr, hld⟩ := hI
  have hil := (List.getElem?_eq_some_iff.1 hu).1
  refine ⟨by omega, hk', ⟨M', P', h0, h1, nM, nP, fun y => ?_, fun y => ?_⟩, fun a b v w hab hb hv hw h1 h2 => ?_, fun a v ha hv h1 => ?_⟩
  · rw [cntF_next hu]
    by_cases e : y = u.f
    · rw [e, a1, gM, if_pos ⟨hk, rfl⟩]
    · rw [a2 y e, gM, if_neg (fun h => e h.2.symm), Int.add_zero]
  · rw [cntP_next hu]
    by_cases e : y = u.p
    · rw [e, b1, gP, if_pos ⟨hk, rfl⟩]
    · rw [b2 y e, gP, if_neg (fun h => e h.2.symm), Int.add_zero]
  · rcases Nat.lt_or_ge b i with h | h
    · exact hwr a b v w hab h hv hw h1 h2
    · obtain rfl : b = i := by omega
      rw [hu] at hw; cases hw
      omega
  · rcases Nat.lt_or_ge a i with h | h
    · exact hld a v h hv h1
    · obtain rfl : a = i := by omega
      rw [hu] at hv; cases hv
      exact ⟨x, hx, hx1, hx2⟩
theorem args_3q {c : Cf} {f : Fs} {q : List Un} : ∀ x, x ∈ [AV.agg c.cells, .agg f.cells, .view (unRows q)] → Pur x := args_3 (cf_pur c) (fsa_pur f) (unRows_pur q)
theorem eT_bad {c : Cf} {f : Fs} {q : List Un} (h : ¬ (okF c f = true ∧ qok c q = true ∧ Tog f q)) : eT c f q = 8 := by unfold eT; exact if_neg h
theorem eT_ok {c : Cf} {f : Fs} {q : List Un} (h : okF c f = true ∧ qok c q = true ∧ Tog f q) : eT c f q = 0 := by unfold eT; exact if_pos h
theorem pf15 (c : Cf) (f : Fs) (q : List Un) (hl : f.l.length ≤ 1000000) (hpl : ∀ x, x ∈ f.l → x.pins.length ≤ 1000000) (hq : q.length ≤ 1000000) : PF Tryz.prog 15 [.agg c.cells, .agg f.cells, .view (unRows q)] (fun r => r = .int .i64 (eT c f q)) := by
  have h43 := pf43 c f hl hpl
  have h44 := pf44 c q hq
  refine pf_of_w0 Tryz.func15 (c := _) rfl rfl (Nat.le_of_ble_eq_true rfl) args_3q ?_
  rw [show Tryz.f15.ntmps = 90 from rfl]
  have hfv : Pur (.vptr f.cells) := .vptr (fs_pur f)
  have hqv := unRows_pur q
  cases hok : okF c f with
  | false =>
    have ev : eF c f = 8 := by simp [eF, hok]
    rw [ev] at h43
    have he : eT c f q = 8 := eT_bad (fun h => by rw [hok] at h; cases h.1)
    have tE := aI uU <| aI Cf.cells.eq_1 <| aI Fs.cells.eq_1 <| tfP20.down; repeat' first | (refine Red.h ?_) | ((with_reducible first | apply wz tkP2 | apply wr_z tkP2); exact zZ; decide) | ((with_reducible first | apply wskip' | apply wr_skip); exact zU; exact zL; exact zU; decide) | ((with_reducible first | apply wcall' | apply wr_call); exact zV; exact zVs; exact zAs; (focus (with_unfolding_all first | exact h43 | exact h44)); decide) | ((with_reducible first | apply w_ift'); exact zV; exact zU) | ((with_reducible apply w_ret); (repeat refine Red.h ?_); (with_reducible apply done_ret tkP2); exact zT; exact zD; exact zX) | fail
    all_goals try clear tE
    rw [he]; rfl
  | true =>
    have ev : eF c f = 0 := by simp [eF, hok]
    rw [ev] at h43
    cases hqk : qok c q with
    | false =>
      rw [hqk, if_neg (by decide)] at h44
      have he : eT c f q = 8 := eT_bad (fun h => by rw [hqk] at h; cases h.2.1)
      have tE := aI uU <| aI Cf.cells.eq_1 <| aI Fs.cells.eq_1 <| tfP20.down; repeat' first | (refine Red.h ?_) | ((with_reducible first | apply wz tkP2 | apply wr_z tkP2); exact zZ; decide) | ((with_reducible first | apply wzg tkP2 | apply wr_zg tkP2); exact zU; exact zL; exact zU; exact zZ; decide) | ((with_reducible first | apply wcall' | apply wr_call); exact zV; exact zVs; exact zAs; (focus (with_unfolding_all first | exact h43 | exact h44)); decide) | ((with_reducible first | apply wcallg' | apply wr_callg); exact zU; exact zL; exact zU; exact zV; exact zVs; exact zAs; (focus (with_unfolding_all first | exact h43 | exact h44)); decide) | ((with_reducible first | apply w_ift'); exact zV; exact zU) | ((with_reducible apply w_ret); (repeat refine Red.h ?_); (with_reducible apply done_ret tkP2); exact zT; exact zD; exact zX) | fail
      all_goals try clear tE
      rw [he]; rfl
    | true =>
      rw [hqk, if_pos rfl] at h44
      obtain ⟨k1, k2, k3, k4, k5⟩ := okF_parts hok
      have hmay : ∀ u, u ∈ q → mayU c u = true := by
        simp only [qok, Bool.and_eq_true, List.all_eq_true] at hqk
        exact hqk.2
      have tE := aI uU <| aI Cf.cells.eq_1 <| aI Fs.cells.eq_1 <| aI unRows_len <| tfP20.down; repeat' first | (refine Red.h ?_) | ((with_reducible first | apply wz tkP2 | apply wr_z tkP2); exact zZ; decide) | ((with_reducible first | apply wzg tkP2 | apply wr_zg tkP2); exact zU; exact zL; exact zU; exact zZ; decide) | ((with_reducible first | apply w_mkmap); decide) | ((with_reducible first | apply wcall' | apply wr_call); exact zV; exact zVs; exact zAs; (focus (with_unfolding_all first | exact h43 | exact h44)); decide) | ((with_reducible first | apply wcallg' | apply wr_callg); exact zU; exact zL; exact zU; exact zV; exact zVs; exact zAs; (focus (with_unfolding_all first | exact h43 | exact h44)); decide) | ((with_reducible first | apply w_iff'); exact zV; exact zU) | fail
      all_goals try clear tE
      refine w_loopP (S := Nat) (fun i => [(4, .vptr f.cells), (7, .map 0), (8, .map 1), (26, .view (unRows q)), (27, .int .i64 (q.length : Int)), (28, .int .i64 (i : Int))]) [] (fun i H k => TgI f q i H k) (fun i => q.length - i) 0 ?_ rfl ?_ ?_
      · (have tE := aI uU <| Fs.cells.eq_1; simp only [fitsT, List.take_zero, List.length_nil, sp_cons, sp_nil, upd_b, Nat.reduceBEq, cond_true, cond_false, args0_zero, args0_succ, args0_nil, tE]; repeat' first | exact trivial | apply aI | exact Sub.refl _ | exact Sub.cap)
      · refine ⟨Nat.zero_le _, Nat.le_refl 2, ⟨[], [], rfl, rfl, fun a b p q hab hp => by simp at hp, fun a b p q hab hp => by simp at hp, fun x => rfl, fun x => rfl⟩, fun a b u v hab hb => absurd hb (by omega), fun a u ha => absurd ha (by omega)⟩
      · rintro i H k hI
        have hI0 := hI
        obtain ⟨hi, hk2, ⟨M, Pg, e0, e1, nM, nP, gM, gP⟩, hwr, hld⟩ := hI
        have hw : IntKind.i64.wrap ((i : Int) + 1) = ((i + 1 : Nat) : Int) := by rw [wrap64 (by omega) (by omega)]; rfl
        have g0 : (0 ≤ (i : Int)) = True := by simp
        have p0 : ((0 : Nat) == k) = false := by rw [beq_eq_false_iff_ne]; omega
        have p1 : ((1 : Nat) == k) = false := by rw [beq_eq_false_iff_ne]; omega
        have p2 : ((0 : Nat) == k + 1) = false := by rw [beq_eq_false_iff_ne]; omega
        have p3 : ((1 : Nat) == k + 1) = false := by rw [beq_eq_false_iff_ne]; omega
        have p4 : (k == k + 1) = false := by rw [beq_eq_false_iff_ne]; omega
        have p5 : (k == 0) = false := by rw [beq_eq_false_iff_ne]; omega
        have p6 : (k == 1) = false := by rw [beq_eq_false_iff_ne]; omega
        by_cases e : i < q.length
        · have g1 : ((i : Int) < (q.length : Int)) = True := by simp; omega
          obtain ⟨u, hu⟩ : ∃ u, q[i]? = some u := ⟨q[i], List.getElem?_eq_getElem e⟩
          have hru := un_row hu
          obtain ⟨m1, m2, m3⟩ := mayU_parts (hmay u (List.mem_of_getElem? hu))
          obtain ⟨rP, f1, f2, f3⟩ := look_cnt nP u.p
          by_cases hk : u.k = 2
          · have c2 : (u.k == 2) = true := by simp [hk]
            have c1 : (u.k != 1) = true := by simp [hk]
            by_cases hc : getC Pg u.p > 0
            · have g2 : (getC Pg u.p > 0) = True := eq_true hc
              have he : eT c f q = 8 := eT_bad (fun h => by
                rw [gP] at hc
                obtain ⟨a, v, ha, hv, hv1, hv2⟩ := cntP_pos hc
                exact h.2.2.wr a i v u ha hv hu hv1 hk hv2)
              have tE := aI uU <| aI g1 <| aI g0 <| aI hw <| aI hru <| aI p0 <| aI p1 <| aI c2 <| aI c1 <| aI e0 <| aI e1 <| aI f1 <| aI f2 <| aI g2 <| aI Fs.cells.eq_1 <| tfP20.down; repeat' first | (refine Red.h ?_) | ((with_reducible first | apply wz tkP2 | apply wr_z tkP2); exact zZ; decide) | ((with_reducible first | apply wzg tkP2 | apply wr_zg tkP2); exact zU; exact zL; exact zU; exact zZ; decide) | ((with_reducible first | apply w_alloc tkP2); exact zT; decide) | ((with_reducible first | apply w_mapgetg tkP2); exact zU; exact zL; exact zU; exact zV; exact zV; exact zH; exact zT; exact zU; exact zT; exact zU; exact zT; exact zU; exact zT; exact zG; decide) | ((with_reducible first | apply w_store tkP2); exact zV; exact zV; exact zS) | ((with_reducible first | apply w_ift'); exact zV; exact zU) | ((with_reducible apply w_ret); (repeat refine Red.h ?_); (with_reducible apply done_ret tkP2); exact zT; exact zD; exact zX) | fail
              all_goals try clear tE
              rw [he]; rfl
            · have g2 : (getC Pg u.p > 0) = False := eq_false hc
              have tE := aI uU <| aI g1 <| aI g0 <| aI hw <| aI hru <| aI p0 <| aI p1 <| aI c2 <| aI c1 <| aI e0 <| aI e1 <| aI f1 <| aI f2 <| aI g2 <| aI Fs.cells.eq_1 <| tfP20.down; repeat' first | (refine Red.h ?_) | ((with_reducible first | apply wz tkP2 | apply wr_z tkP2); exact zZ; decide) | ((with_reducible first | apply wzg tkP2 | apply wr_zg tkP2); exact zU; exact zL; exact zU; exact zZ; decide) | ((with_reducible first | apply w_alloc tkP2); exact zT; decide) | ((with_reducible first | apply w_mapgetg tkP2); exact zU; exact zL; exact zU; exact zV; exact zV; exact zH; exact zT; exact zU; exact zT; exact zU; exact zT; exact zU; exact zT; exact zG; decide) | ((with_reducible first | apply w_store tkP2); exact zV; exact zV; exact zS) | ((with_reducible first | apply w_ift'); exact zV; exact zU) | ((with_reducible first | apply w_iff'); exact zV; exact zU) | fail
              all_goals try clear tE
              refine ⟨i + 1, by omega, tg_skip hI0 hu hk (by rw [← gP]; exact hc) (fun id hid => ?_) (show 2 ≤ k + 1 by omega), rfl, ?_⟩
              · show upd H k _ id = _
                rw [upd_ne _ _ (by omega)]
              · (have tE := aI uU <| aI hw <| Fs.cells.eq_1; simp only [fitsT, List.take_zero, List.length_nil, sp_cons, sp_nil, upd_b, Nat.reduceBEq, cond_true, cond_false, args0_zero, args0_succ, args0_nil, tE]; repeat' first | exact trivial | apply aI | exact Sub.refl _ | exact Sub.cap)
          · have hk1 : u.k = 1 := by omega
            have c2 : (u.k == 2) = false := by simp [hk]
            have c1 : (u.k != 1) = false := by simp [hk1]
            obtain ⟨a, ha⟩ : ∃ a : Nat, u.f = a := ⟨u.f.toNat, by omega⟩
            have hal : a < f.l.length := by omega
            obtain ⟨x, hx⟩ : ∃ x, f.l[a]? = some x := ⟨_, List.getElem?_eq_getElem hal⟩
            have hr := fr_row hx
            have a0 : (0 ≤ (a : Int)) = True := by simp
            have a1 : ((a : Int) < (f.l.length : Int)) = True := by simp; omega
            have hxt : f.l[u.f.toNat]? = some x := by rw [ha, Int.toNat_natCast]; exact hx
            by_cases hxk : x.k = 1
            · have d1 : (x.k != 1) = false := by simp [hxk]
              by_cases hxp : x.p = u.p
              · have d2 : (x.p != u.p) = false := by simp [hxp]
                obtain ⟨rM, m1, m2, m3⟩ := look_cnt nM (a : Int)
                have lM := cntF_le q i a
                have lP := cntP_le q i u.p
                rw [← gM] at lM
                rw [← gP] at lP
                have wM : IntKind.i64.wrap (getC M (a : Int) + 1) = getC M (a : Int) + 1 := wrap64 (by omega) (by omega)
                have wP : IntKind.i64.wrap (getC Pg u.p + 1) = getC Pg u.p + 1 := wrap64 (by omega) (by omega)
                obtain ⟨M', pm, nM', gM1, gM2⟩ := m3 (getC M (a : Int) + 1)
                obtain ⟨P', pp, nP', gP1, gP2⟩ := f3 (getC Pg u.p + 1)
                have tE := aI uU <| aI g1 <| aI g0 <| aI hw <| aI hru <| aI p0 <| aI p1 <| aI p2 <| aI p3 <| aI p4 <| aI p5 <| aI p6 <| aI c2 <| aI c1 <| aI d1 <| aI d2 <| aI ha <| aI hr <| aI a0 <| aI a1 <| aI e0 <| aI e1 <| aI f1 <| aI f2 <| aI m1 <| aI m2 <| aI wM <| aI wP <| aI pm <| aI pp <| aI Fs.cells.eq_1 <| aI frRows_len <| tfP20.down; repeat' first | (refine Red.h ?_) | ((with_reducible first | apply wz tkP2 | apply wr_z tkP2); exact zZ; decide) | ((with_reducible first | apply wzg tkP2 | apply wr_zg tkP2); exact zU; exact zL; exact zU; exact zZ; decide) | ((with_reducible first | apply wskip' | apply wr_skip); exact zU; exact zL; exact zU; decide) | ((with_reducible first | apply w_alloc tkP2); exact zT; decide) | ((with_reducible first | apply w_mapget tkP2); exact zV; exact zV; exact zH; exact zT; exact zU; exact zT; exact zU; exact zT; exact zU; exact zT; exact zG; decide) | ((with_reducible first | apply w_mapput tkP2); exact zV; exact zV; exact zV; exact zH; exact zT; exact zU; exact zT; exact zU; exact zT; exact zG) | ((with_reducible first | apply w_store tkP2); exact zV; exact zV; exact zS) | ((with_reducible first | apply w_ift'); exact zV; exact zU) | ((with_reducible first | apply w_iff'); exact zV; exact zU) | fail
                all_goals try clear tE
                refine ⟨i + 1, by omega, tg_fetch hI0 hu hk1 hxt hxk hxp gM gP ?_ ?_ nM' nP' (by rw [ha]; exact gM1) (by rw [ha]; exact gM2) gP1 gP2 (show 2 ≤ k + 1 + 1 by omega), rfl, ?_⟩
                · rfl
                · rfl
                · (have tE := aI uU <| aI hw <| Fs.cells.eq_1; simp only [fitsT, List.take_zero, List.length_nil, sp_cons, sp_nil, upd_b, Nat.reduceBEq, cond_true, cond_false, args0_zero, args0_succ, args0_nil, tE]; repeat' first | exact trivial | apply aI | exact Sub.refl _ | exact Sub.cap)
              · have d2 : (x.p != u.p) = true := by simp [hxp]
                have he : eT c f q = 8 := eT_bad (fun h => by
                  obtain ⟨y, h1, h2, h3⟩ := h.2.2.ld i u hu hk1
                  rw [hxt] at h1; cases h1
                  exact hxp h3)
                have tE := aI uU <| aI g1 <| aI g0 <| aI hw <| aI hru <| aI p0 <| aI p1 <| aI p2 <| aI p3 <| aI p4 <| aI c2 <| aI c1 <| aI d1 <| aI d2 <| aI ha <| aI hr <| aI a0 <| aI a1 <| aI e0 <| aI e1 <| aI Fs.cells.eq_1 <| aI frRows_len <| tfP20.down; repeat' first | (refine Red.h ?_) | ((with_reducible first | apply wz tkP2 | apply wr_z tkP2); exact zZ; decide) | ((with_reducible first | apply wzg tkP2 | apply wr_zg tkP2); exact zU; exact zL; exact zU; exact zZ; decide) | ((with_reducible first | apply wskip' | apply wr_skip); exact zU; exact zL; exact zU; decide) | ((with_reducible first | apply w_alloc tkP2); exact zT; decide) | ((with_reducible first | apply w_store tkP2); exact zV; exact zV; exact zS) | ((with_reducible first | apply w_ift'); exact zV; exact zU) | ((with_reducible first | apply w_iff'); exact zV; exact zU) | ((with_reducible apply w_ret); (repeat refine Red.h ?_); (with_reducible apply done_ret tkP2); exact zT; exact zD; exact zX) | fail
                all_goals try clear tE
                rw [he]; rfl
            · have d1 : (x.k != 1) = true := by simp [hxk]
              have he : eT c f q = 8 := eT_bad (fun h => by
                obtain ⟨y, h1, h2, h3⟩ := h.2.2.ld i u hu hk1
                rw [hxt] at h1; cases h1
                exact hxk h2)
              have tE := aI uU <| aI g1 <| aI g0 <| aI hw <| aI hru <| aI p0 <| aI p1 <| aI p2 <| aI p3 <| aI p4 <| aI c2 <| aI c1 <| aI d1 <| aI ha <| aI hr <| aI a0 <| aI a1 <| aI e0 <| aI e1 <| aI Fs.cells.eq_1 <| aI frRows_len <| tfP20.down; repeat' first | (refine Red.h ?_) | ((with_reducible first | apply wz tkP2 | apply wr_z tkP2); exact zZ; decide) | ((with_reducible first | apply wskip' | apply wr_skip); exact zU; exact zL; exact zU; decide) | ((with_reducible first | apply w_alloc tkP2); exact zT; decide) | ((with_reducible first | apply w_store tkP2); exact zV; exact zV; exact zS) | ((with_reducible first | apply w_ift'); exact zV; exact zU) | ((with_reducible first | apply w_iff'); exact zV; exact zU) | ((with_reducible apply w_ret); (repeat refine Red.h ?_); (with_reducible apply done_ret tkP2); exact zT; exact zD; exact zX) | fail
              all_goals try clear tE
              rw [he]; rfl
        · have g1 : ((i : Int) < (q.length : Int)) = False := by simp; omega
          have ei : i = q.length := by omega
          subst ei
          have tE := aI uU <| aI g1 <| aI Fs.cells.eq_1 <| aI frRows_len <| tfP20.down; repeat' first | (refine Red.h ?_) | ((with_reducible first | apply wz tkP2 | apply wr_z tkP2); exact zZ; decide) | ((with_reducible first | apply w_iff'); exact zV; exact zU) | fail
          all_goals try clear tE
          refine w_loopP (S := Nat) (fun j => [(7, .map 0), (73, .view (frRows f.l)), (74, .int .i64 (f.l.length : Int)), (75, .int .i64 (j : Int))]) [] (fun j H' k' => j ≤ f.l.length ∧ 2 ≤ k' ∧ H' 0 = some (.map (entM .i64 .i64 M)) ∧ ∀ (b : Nat) y, b < j → f.l[b]? = some y → y.k = 1 → getC M (b : Int) = 1) (fun j => f.l.length - j) 0 ?_ rfl ?_ ?_
          · (have tE := aI uU <| aI Fs.cells.eq_1 <| frRows_len; simp only [fitsT, List.take_zero, List.length_nil, sp_cons, sp_nil, upd_b, Nat.reduceBEq, cond_true, cond_false, args0_zero, args0_succ, args0_nil, tE]; repeat' first | exact trivial | apply aI | exact Sub.refl _ | exact Sub.cap)
          · exact ⟨Nat.zero_le _, hk2, e0, fun b y hb => absurd hb (by omega)⟩
          · clear hI0 e0 e1 p0 p1 p2 p3 p4 p5 p6 hk2
            rintro j H' k' ⟨hj, hk2, e0, hone⟩
            have hwj : IntKind.i64.wrap ((j : Int) + 1) = ((j + 1 : Nat) : Int) := by rw [wrap64 (by omega) (by omega)]; rfl
            have j0 : (0 ≤ (j : Int)) = True := by simp
            have p0 : ((0 : Nat) == k') = false := by rw [beq_eq_false_iff_ne]; omega
            by_cases ej : j < f.l.length
            · have j1 : ((j : Int) < (f.l.length : Int)) = True := by simp; omega
              obtain ⟨y, hy⟩ : ∃ y, f.l[j]? = some y := ⟨_, List.getElem?_eq_getElem ej⟩
              have hr := fr_row hy
              by_cases hyk : y.k = 1
              · have d1 : (y.k == 1) = true := by simp [hyk]
                obtain ⟨rM, m1, m2, m3⟩ := look_cnt nM (j : Int)
                by_cases h1 : getC M (j : Int) = 1
                · have d2 : (getC M (j : Int) != 1) = false := by simp [h1]
                  have tE := aI uU <| aI j1 <| aI j0 <| aI hwj <| aI hr <| aI p0 <| aI d1 <| aI d2 <| aI e0 <| aI m1 <| aI m2 <| tfP20.down; repeat' first | (refine Red.h ?_) | ((with_reducible first | apply wz tkP2 | apply wr_z tkP2); exact zZ; decide) | ((with_reducible first | apply wzg tkP2 | apply wr_zg tkP2); exact zU; exact zL; exact zU; exact zZ; decide) | ((with_reducible first | apply w_alloc tkP2); exact zT; decide) | ((with_reducible first | apply w_mapgetg tkP2); exact zU; exact zL; exact zU; exact zV; exact zV; exact zH; exact zT; exact zU; exact zT; exact zU; exact zT; exact zU; exact zT; exact zG; decide) | ((with_reducible first | apply w_store tkP2); exact zV; exact zV; exact zS) | ((with_reducible first | apply w_ift'); exact zV; exact zU) | ((with_reducible first | apply w_iff'); exact zV; exact zU) | fail
                  all_goals try clear tE
                  refine ⟨j + 1, by omega, ⟨by omega, by show 2 ≤ k' + 1; omega, ?_, fun b z hb hz hz1 => ?_⟩, rfl, ?_⟩
                  · show upd H' k' _ 0 = _
                    rw [upd_ne _ _ (by omega)]; exact e0
                  · rcases Nat.lt_or_ge b j with h | h
                    · exact hone b z h hz hz1
                    · obtain rfl : b = j := by omega
                      exact h1
                  · (have tE := aI uU <| hwj; simp only [fitsT, List.take_zero, List.length_nil, sp_cons, sp_nil, upd_b, Nat.reduceBEq, cond_true, cond_false, args0_zero, args0_succ, args0_nil, tE]; repeat' first | exact trivial | apply aI | exact Sub.refl _ | exact Sub.cap)
                · have d2 : (getC M (j : Int) != 1) = true := by simp [h1]
                  have he : eT c f q = 8 := eT_bad (fun h => h1 (by
                    have := h.2.2.one j y hy hyk
                    rw [gM, cntF, List.take_length, this]; rfl))
                  have tE := aI uU <| aI j1 <| aI j0 <| aI hwj <| aI hr <| aI p0 <| aI d1 <| aI d2 <| aI e0 <| aI m1 <| aI m2 <| tfP20.down; repeat' first | (refine Red.h ?_) | ((with_reducible first | apply wz tkP2 | apply wr_z tkP2); exact zZ; decide) | ((with_reducible first | apply wzg tkP2 | apply wr_zg tkP2); exact zU; exact zL; exact zU; exact zZ; decide) | ((with_reducible first | apply w_alloc tkP2); exact zT; decide) | ((with_reducible first | apply w_mapgetg tkP2); exact zU; exact zL; exact zU; exact zV; exact zV; exact zH; exact zT; exact zU; exact zT; exact zU; exact zT; exact zU; exact zT; exact zG; decide) | ((with_reducible first | apply w_store tkP2); exact zV; exact zV; exact zS) | ((with_reducible first | apply w_ift'); exact zV; exact zU) | ((with_reducible apply w_ret); (repeat refine Red.h ?_); (with_reducible apply done_ret tkP2); exact zT; exact zD; exact zX) | fail
                  all_goals try clear tE
                  rw [he]; rfl
              · have d1 : (y.k == 1) = false := by simp [hyk]
                have tE := aI uU <| aI j1 <| aI j0 <| aI hwj <| aI hr <| aI p0 <| aI d1 <| aI e0 <| tfP20.down; repeat' first | (refine Red.h ?_) | ((with_reducible first | apply wz tkP2 | apply wr_z tkP2); exact zZ; decide) | ((with_reducible first | apply wskip' | apply wr_skip); exact zU; exact zL; exact zU; decide) | ((with_reducible first | apply w_alloc tkP2); exact zT; decide) | ((with_reducible first | apply w_store tkP2); exact zV; exact zV; exact zS) | ((with_reducible first | apply w_ift'); exact zV; exact zU) | ((with_reducible first | apply w_iff'); exact zV; exact zU) | fail
                all_goals try clear tE
                refine ⟨j + 1, by omega, ⟨by omega, by show 2 ≤ k' + 1; omega, ?_, fun b z hb hz hz1 => ?_⟩, rfl, ?_⟩
                · show upd H' k' _ 0 = _
                  rw [upd_ne _ _ (by omega)]; exact e0
                · rcases Nat.lt_or_ge b j with h | h
                  · exact hone b z h hz hz1
                  · obtain rfl : b = j := by omega
                    rw [hy] at hz; cases hz
                    exact absurd hz1 hyk
                · (have tE := aI uU <| hwj; simp only [fitsT, List.take_zero, List.length_nil, sp_cons, sp_nil, upd_b, Nat.reduceBEq, cond_true, cond_false, args0_zero, args0_succ, args0_nil, tE]; repeat' first | exact trivial | apply aI | exact Sub.refl _ | exact Sub.cap)
            · have j1 : ((j : Int) < (f.l.length : Int)) = False := by simp; omega
              have he : eT c f q = 0 := eT_ok ⟨hok, hqk, ⟨fun a b v w hab hv hw h1 h2 => hwr a b v w hab (List.getElem?_eq_some_iff.1 hw).1 hv hw h1 h2, fun a v hv h1 => hld a v (List.getElem?_eq_some_iff.1 hv).1 hv h1, fun b z hz hz1 => by
                have := hone b z (by have := (List.getElem?_eq_some_iff.1 hz).1; omega) hz hz1
                rw [gM, cntF, List.take_length] at this
                omega⟩⟩
              have tE := aI uU <| aI j1 <| tfP20.down; repeat' first | (refine Red.h ?_) | ((with_reducible first | apply wz tkP2 | apply wr_z tkP2); exact zZ; decide) | ((with_reducible first | apply w_iff'); exact zV; exact zU) | ((with_reducible apply w_ret); (repeat refine Red.h ?_); (with_reducible apply done_ret tkP2); exact zT; exact zD; exact zX) | fail
              all_goals try clear tE
              rw [he]; rfl
end Go.Proofs.YtlmighkbeacjnaaGreatDoor


open Go Go.Lg
set_option linter.unusedSimpArgs false
set_option linter.unusedVariables false
set_option maxHeartbeats 8000000
set_option maxRecDepth 20000
namespace Go.Proofs.YtlmighkbeacjnaaGreatDoor
theorem tkP3 : TOK Tryz.prog (tyOf Tryz.prog) := tok Tryz.prog
def tfP33 := PLift.up (aI ty3 <| aI ty4 <| aI ty5 <| aI ty24 <| aI ty26 <| aI ty28 <| aI ty72 <| aI ty74 <| Tryz.results8)
open Classical in
open Classical in
open Classical in
theorem pf8 (f : Fs) (q : List Un) : PF Tryz.prog 8 [.agg f.cells, .view (unRows q)] (fun r => r = .bool (greatF f.l || great q)) := by
  have h33 := pf33 f
  have h34 := pf34 q
  refine pf_of_w0 Tryz.func8 (c := _) rfl rfl (Nat.le_of_ble_eq_true rfl) (args_2 (fsa_pur f) (unRows_pur q)) ?_
  rw [show Tryz.f8.ntmps = 11 from rfl]
  cases hg : greatF f.l with
  | true =>
    have tE := aI uU <| aI Fs.cells.eq_1 <| aI hg <| tfP33.down; repeat' first | (refine Red.h ?_) | ((with_reducible first | apply wz tkP3 | apply wr_z tkP3); exact zZ; decide) | ((with_reducible first | apply wskip' | apply wr_skip); exact zU; exact zL; exact zU; decide) | ((with_reducible first | apply wcall' | apply wr_call); exact zV; exact zVs; exact zAs; (focus (with_unfolding_all first | exact h33 | exact h34)); decide) | ((with_reducible apply w_ret); (repeat refine Red.h ?_); (with_reducible apply done_ret tkP3); exact zT; exact zD; exact zX) | fail
    all_goals try clear tE
    rfl
  | false =>
    have tE := aI uU <| aI Fs.cells.eq_1 <| aI hg <| tfP33.down; repeat' first | (refine Red.h ?_) | ((with_reducible first | apply wz tkP3 | apply wr_z tkP3); exact zZ; decide) | ((with_reducible first | apply wzg tkP3 | apply wr_zg tkP3); exact zU; exact zL; exact zU; exact zZ; decide) | ((with_reducible first | apply wcall' | apply wr_call); exact zV; exact zVs; exact zAs; (focus (with_unfolding_all first | exact h33 | exact h34)); decide) | ((with_reducible first | apply wcallg' | apply wr_callg); exact zU; exact zL; exact zU; exact zV; exact zVs; exact zAs; (focus (with_unfolding_all first | exact h33 | exact h34)); decide) | ((with_reducible apply w_ret); (repeat refine Red.h ?_); (with_reducible apply done_ret tkP3); exact zT; exact zD; exact zX) | fail
    all_goals try clear tE
    rfl
end Go.Proofs.YtlmighkbeacjnaaGreatDoor


