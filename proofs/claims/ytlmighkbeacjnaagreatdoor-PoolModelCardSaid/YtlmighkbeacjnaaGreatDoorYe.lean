/- PoolServes, the plain law: frames and a queue that go together, and what a page has. pool.Check: do frames and a queue go together? What a page has: under, content, sound, great. -/
import Derived.Test.YtlmighkbeacjnaaGreatDoorYd
import Derived.Test.YtlmighkbeacjnaaGreatDoorLm5
import Derived.Test.YtlmighkbeacjnaaGreatDoorLm6

open Go Go.Lg
set_option linter.unusedSimpArgs false
set_option linter.unusedVariables false
set_option maxHeartbeats 4000000
namespace Go.Proofs.YtlmighkbeacjnaaGreatDoor
/-- Do frames and a queue go together? -/
structure Tog (f : Fs) (q : List Un) : Prop where
  wr : ∀ (i j : Nat) u v, i < j → q[i]? = some u → q[j]? = some v → u.k = 1 → v.k = 2 → u.p ≠ v.p
  ld : ∀ (i : Nat) u, q[i]? = some u → u.k = 1 → ∃ x, f.l[u.f.toNat]? = some x ∧ x.k = 1 ∧ x.p = u.p
  one : ∀ (i : Nat) x, f.l[i]? = some x → x.k = 1 → (q.filter fun u : Un => decide (u.k = 1 ∧ u.f = (i : Int))).length = 1
/-- What the queue and the store tell of a page. -/
def underL (q : List Un) (b : List UInt8) (p : Int) : List UInt8 := match q with
  | [] => b
  | u :: q => underL q (if u.k = 2 ∧ u.p = p then u.d else b) p
def baseAt (base : List (List UInt8)) (p : Int) : List UInt8 := base.getD p.toNat []
def under (q : List Un) (base : List (List UInt8)) (p : Int) : List UInt8 := underL q (baseAt base p) p
def isReady (p : Int) (x : Fr) : Bool := decide (x.k = 2 ∧ x.p = p)
def content (f : Fs) (q : List Un) (base : List (List UInt8)) (p : Int) : List UInt8 := match f.l.find? (isReady p) with
  | some x => x.d
  | none => under q base p
structure Sound (c : Cf) (f : Fs) (q : List Un) (base : List (List UInt8)) : Prop where
  len : (base.length : Int) = c.p
  okf : okF c f = true
  okq : qok c q = true
  tog : Tog f q
  cl : ∀ (i : Nat) x, f.l[i]? = some x → x.k = 2 → x.dt = false → x.d = under q base x.p
theorem mayU_parts {c : Cf} {u : Un} (h : mayU c u = true) : (u.k = 2 ∨ u.k = 1) ∧ 0 ≤ u.f ∧ u.f < c.fr := by
  simp only [mayU, decide_eq_true_eq] at h
  exact ⟨by rcases h.1 with h | h; exact .inl h.1; exact .inr h.1, h.2.2.2⟩
theorem underL_skip {b : List UInt8} {p : Int} : ∀ {q : List Un}, (∀ u, u ∈ q → ¬ (u.k = 2 ∧ u.p = p)) → underL q b p = b
  | [], _ => rfl
  | u :: q, h => by rw [underL, if_neg (h u List.mem_cons_self)]; exact underL_skip fun v hv => h v (List.mem_cons_of_mem _ hv)
end Go.Proofs.YtlmighkbeacjnaaGreatDoor


open Go Go.Lg
set_option linter.unusedSimpArgs false
set_option linter.unusedVariables false
set_option maxHeartbeats 8000000
set_option maxRecDepth 20000
namespace Go.Proofs.YtlmighkbeacjnaaGreatDoor
theorem tkP2 : TOK Tryz.prog (tyOf Tryz.prog) := tok Tryz.prog
def tfP20 := PLift.up (aI ty3 <| aI ty4 <| aI ty5 <| aI ty23 <| aI ty24 <| aI ty26 <| aI ty27 <| aI ty28 <| aI ty34 <| aI ty58 <| aI ty72 <| aI ty74 <| aI ty89 <| Tryz.results15)
def cntF (q : List Un) (i : Nat) (k : Int) : Int := (((q.take i).filter fun u : Un => decide (u.k = 1 ∧ u.f = k)).length : Nat)
def cntP (q : List Un) (i : Nat) (p : Int) : Int := (((q.take i).filter fun u : Un => decide (u.k = 1 ∧ u.p = p)).length : Nat)
theorem cntF_next {q : List Un} {i : Nat} {u : Un} (h : q[i]? = some u) (k : Int) : cntF q (i + 1) k = cntF q i k + (if u.k = 1 ∧ u.f = k then 1 else 0) := by
  have : q.take (i + 1) = q.take i ++ [u] := by rw [List.take_add_one, h]; rfl
  unfold cntF
  rw [this, List.filter_append, List.length_append, List.filter_cons]
  by_cases e : u.k = 1 ∧ u.f = k
  · rw [if_pos (by simpa using e), if_pos e]; simp
  · rw [if_neg (by simpa using e), if_neg e]; simp
theorem cntP_next {q : List Un} {i : Nat} {u : Un} (h : q[i]? = some u) (p : Int) : cntP q (i + 1) p = cntP q i p + (if u.k = 1 ∧ u.p = p then 1 else 0) := by
  have : q.take (i + 1) = q.take i ++ [u] := by rw [List.take_add_one, h]; rfl
  unfold cntP
  rw [this, List.filter_append, List.length_append, List.filter_cons]
  by_cases e : u.k = 1 ∧ u.p = p
  · rw [if_pos (by simpa using e), if_pos e]; simp
  · rw [if_neg (by simpa using e), if_neg e]; simp
theorem cntF_le (q : List Un) (i : Nat) (k : Int) : 0 ≤ cntF q i k ∧ cntF q i k ≤ i := by
  have h1 := List.length_filter_le (fun u : Un => decide (u.k = 1 ∧ u.f = k)) (q.take i)
  rw [List.length_take] at h1
  unfold cntF; omega
theorem cntP_le (q : List Un) (i : Nat) (k : Int) : 0 ≤ cntP q i k ∧ cntP q i k ≤ i := by
  have h1 := List.length_filter_le (fun u : Un => decide (u.k = 1 ∧ u.p = k)) (q.take i)
  rw [List.length_take] at h1
  unfold cntP; omega
theorem cntP_pos {q : List Un} {i : Nat} {p : Int} (h : cntP q i p > 0) : ∃ (a : Nat) (u : Un), a < i ∧ q[a]? = some u ∧ u.k = 1 ∧ u.p = p := by
  unfold cntP at h
  obtain ⟨u, hu⟩ := List.exists_mem_of_length_pos (l := (q.take i).filter fun u : Un => decide (u.k = 1 ∧ u.p = p)) (by omega)
  obtain ⟨h1, h2⟩ := List.mem_filter.1 hu
  simp only [decide_eq_true_eq] at h2
  obtain ⟨a, ha, rfl⟩ := List.getElem_of_mem h1
  rw [List.length_take] at ha
  refine ⟨a, _, by omega, ?_, h2.1, h2.2⟩
  rw [List.getElem_take, List.getElem?_eq_getElem (by omega)]
theorem cntP_zero {q : List Un} {i : Nat} {p : Int} (h : ¬ cntP q i p > 0) {a : Nat} {u : Un} (ha : a < i) (hu : q[a]? = some u) (hk : u.k = 1) : u.p ≠ p := fun e => by
  have h0 : (q.take i).filter (fun u : Un => decide (u.k = 1 ∧ u.p = p)) = [] := by
    refine List.eq_nil_of_length_eq_zero ?_
    unfold cntP at h; omega
  rw [List.filter_eq_nil_iff] at h0
  have hm : u ∈ q.take i := List.mem_of_getElem? (i := a) (by rw [List.getElem?_take_of_lt ha]; exact hu)
  exact h0 u hm (by simp [hk, e])
open Classical in
/-- What pool.Check tells. -/
noncomputable def eT (c : Cf) (f : Fs) (q : List Un) : Int := if okF c f = true ∧ qok c q = true ∧ Tog f q then 0 else 8
structure TgI (f : Fs) (q : List Un) (i : Nat) (H : Heap) (k : Nat) : Prop where
  le : i ≤ q.length
  k2 : 2 ≤ k
  maps : ∃ M Pg, H 0 = some (.map (entM .i64 .i64 M)) ∧ H 1 = some (.map (entM .i64 .i64 Pg)) ∧ NodK M ∧ NodK Pg ∧ (∀ x, getC M x = cntF q i x) ∧ ∀ x, getC Pg x = cntP q i x
  wr : ∀ (a b : Nat) u v, a < b → b < i → q[a]? = some u → q[b]? = some v → u.k = 1 → v.k = 2 → u.p ≠ v.p
  ld : ∀ (a : Nat) u, a < i → q[a]? = some u → u.k = 1 → ∃ x, f.l[u.f.toNat]? = some x ∧ x.k = 1 ∧ x.p = u.p
theorem tg_skip {f : Fs} {q : List Un} {i k k' : Nat} {H H' : Heap} {u : Un} (hI : TgI f q i H k) (hu : q[i]? = some u) (hk : u.k = 2) (hno : ¬ cntP q i u.p > 0) (h0 : ∀ id, id < 2 → H' id = H id) (hk' : 2 ≤ k') : TgI f q (i + 1) H' k' := by
  obtain ⟨hi, hk2, ⟨M, Pg, e0, e1, nM, nP, gM, gP⟩, hwr, hld⟩ := hI
  have hil := (List.getElem?_eq_some_iff.1 hu).1
  refine ⟨by omega, hk', ⟨M, Pg, by rw [h0 0 (by omega)]; exact e0, by rw [h0 1 (by omega)]; exact e1, nM, nP, fun x => by rw [gM, cntF_next hu, if_neg (fun h => by omega), Int.add_zero], fun x => by rw [gP, cntP_next hu, if_neg (fun h => by omega), Int.add_zero]⟩, fun a b v w hab hb hv hw h1 h2 => ?_, fun a v ha hv h1 => ?_⟩
  · rcases Nat.lt_or_ge b i with h | h
    · exact hwr a b v w hab h hv hw h1 h2
    · obtain rfl : b = i := by omega
      rw [hu] at hw; cases hw
      exact cntP_zero hno hab hv h1
  · rcases Nat.lt_or_ge a i with h | h
    · exact hld a v h hv h1
    · obtain rfl : a = i := by omega
      rw [hu] at hv; cases hv
      omega
theorem tg_fetch {f : Fs} {q : List Un} {i k k' : Nat} {H H' : Heap} {u : Un} {M Pg M' P' : List (Int × Int)} {x : Fr} (hI : TgI f q i H k) (hu : q[i]? = some u) (hk : u.k = 1) (hx : f.l[u.f.toNat]? = some x) (hx1 : x.k = 1) (hx2 : x.p = u.p) (gM : ∀ x, getC M x = cntF q i x) (gP : ∀ x, getC Pg x = cntP q i x)
    (h0 : H' 0 = some (.map (entM .i64 .i64 M'))) (h1 : H' 1 = some (.map (entM .i64 .i64 P'))) (nM : NodK M') (nP : NodK P') (a1 : getC M' u.f = getC M u.f + 1) (a2 : ∀ y, y ≠ u.f → getC M' y = getC M y) (b1 : getC P' u.p = getC Pg u.p + 1) (b2 : ∀ y, y ≠ u.p → getC P' y = getC Pg y) (hk' : 2 ≤ k') : TgI f q (i + 1) H' k' := by
  obtain ⟨hi, hk2, _, hwr, hld⟩ := hI
  have hil := (List.getElem?_eq_some_iff.1 hu).1
  refine ⟨by omega, hk', ⟨M', P', h0, h1, nM, nP, fun y => ?_, fun y => ?_⟩, fun a b v w hab hb hv hw h1 h2 => ?_, fun a v ha hv h1 => ?_⟩
  · rw [cntF_next hu]
    by_cases e : y = u.f
    · rw [e, a1, gM, if_pos ⟨hk, rfl⟩]
    · rw [a2 y e, gM, if_neg (fun h => e h.2.symm), Int.add_zero]
  · rw [cntP_next hu]
    by_cases e : y = u.p
    · rw [e, b1, gP, if_pos ⟨hk, rfl⟩]
    · rw [b2 y e, gP, if_neg (fun h => e h.2.symm), Int.add_zero]
  · rcases Nat.lt_or_ge b i with h | h
    · exact hwr a b v w hab h hv hw h1 h2
    · obtain rfl : b = i := by omega
      rw [hu] at hw; cases hw
      omega
  · rcases Nat.lt_or_ge a i with h | h
    · exact hld a v h hv h1
    · obtain rfl : a = i := by omega
      rw [hu] at hv; cases hv
      exact ⟨x, hx, hx1, hx2⟩
theorem args_3q {c : Cf} {f : Fs} {q : List Un} : ∀ x, x ∈ [AV.agg c.cells, .agg f.cells, .view (unRows q)] → Pur x := args_3 (cf_pur c) (fsa_pur f) (unRows_pur q)
theorem eT_bad {c : Cf} {f : Fs} {q : List Un} (h : ¬ (okF c f = true ∧ qok c q = true ∧ Tog f q)) : eT c f q = 8 := by unfold eT; exact if_neg h
theorem eT_ok {c : Cf} {f : Fs} {q : List Un} (h : okF c f = true ∧ qok c q = true ∧ Tog f q) : eT c f q = 0 := by unfold eT; exact if_pos h
theorem pf15 (c : Cf) (f : Fs) (q : List Un) (hl : f.l.length ≤ 1000000) (hpl : ∀ x, x ∈ f.l → x.pins.length ≤ 1000000) (hq : q.length ≤ 1000000) : PF Tryz.prog 15 [.agg c.cells, .agg f.cells, .view (unRows q)] (fun r => r = .int .i64 (eT c f q)) := by
  have h43 := pf43 c f hl hpl
  have h44 := pf44 c q hq
  refine pf_of_w0 Tryz.func15 (c := _) rfl rfl (Nat.le_of_ble_eq_true rfl) args_3q ?_
  rw [show Tryz.f15.ntmps = 90 from rfl]
  have hfv : Pur (.vptr f.cells) := .vptr (fs_pur f)
  have hqv := unRows_pur q
  cases hok : okF c f with
  | false =>
    have ev : eF c f = 8 := by simp [eF, hok]
    rw [ev] at h43
    have he : eT c f q = 8 := eT_bad (fun h => by rw [hok] at h; cases h.1)
    have tE := aI uU <| aI Cf.cells.eq_1 <| aI Fs.cells.eq_1 <| tfP20.down; repeat' first | (refine Red.h ?_) | ((with_reducible first | apply wz tkP2 | apply wr_z tkP2); exact zZ; decide) | ((with_reducible first | apply wskip' | apply wr_skip); exact zU; exact zL; exact zU; decide) | ((with_reducible first | apply wcall' | apply wr_call); exact zV; exact zVs; exact zAs; (focus (with_unfolding_all first | exact h43 | exact h44)); decide) | ((with_reducible first | apply w_ift'); exact zV; exact zU) | ((with_reducible apply w_ret); (repeat refine Red.h ?_); (with_reducible apply done_ret tkP2); exact zT; exact zD; exact zX) | fail
    all_goals try clear tE
    rw [he]; rfl
  | true =>
    have ev : eF c f = 0 := by simp [eF, hok]
    rw [ev] at h43
    cases hqk : qok c q with
    | false =>
      rw [hqk, if_neg (by decide)] at h44
      have he : eT c f q = 8 := eT_bad (fun h => by rw [hqk] at h; cases h.2.1)
      have tE := aI uU <| aI Cf.cells.eq_1 <| aI Fs.cells.eq_1 <| tfP20.down; repeat' first | (refine Red.h ?_) | ((with_reducible first | apply wz tkP2 | apply wr_z tkP2); exact zZ; decide) | ((with_reducible first | apply wzg tkP2 | apply wr_zg tkP2); exact zU; exact zL; exact zU; exact zZ; decide) | ((with_reducible first | apply wcall' | apply wr_call); exact zV; exact zVs; exact zAs; (focus (with_unfolding_all first | exact h43 | exact h44)); decide) | ((with_reducible first | apply wcallg' | apply wr_callg); exact zU; exact zL; exact zU; exact zV; exact zVs; exact zAs; (focus (with_unfolding_all first | exact h43 | exact h44)); decide) | ((with_reducible first | apply w_ift'); exact zV; exact zU) | ((with_reducible apply w_ret); (repeat refine Red.h ?_); (with_reducible apply done_ret tkP2); exact zT; exact zD; exact zX) | fail
      all_goals try clear tE
      rw [he]; rfl
    | true =>
      rw [hqk, if_pos rfl] at h44
      obtain ⟨k1, k2, k3, k4, k5⟩ := okF_parts hok
      have hmay : ∀ u, u ∈ q → mayU c u = true := by
        simp only [qok, Bool.and_eq_true, List.all_eq_true] at hqk
        exact hqk.2
      have tE := aI uU <| aI Cf.cells.eq_1 <| aI Fs.cells.eq_1 <| aI unRows_len <| tfP20.down; repeat' first | (refine Red.h ?_) | ((with_reducible first | apply wz tkP2 | apply wr_z tkP2); exact zZ; decide) | ((with_reducible first | apply wzg tkP2 | apply wr_zg tkP2); exact zU; exact zL; exact zU; exact zZ; decide) | ((with_reducible first | apply w_mkmap); decide) | ((with_reducible first | apply wcall' | apply wr_call); exact zV; exact zVs; exact zAs; (focus (with_unfolding_all first | exact h43 | exact h44)); decide) | ((with_reducible first | apply wcallg' | apply wr_callg); exact zU; exact zL; exact zU; exact zV; exact zVs; exact zAs; (focus (with_unfolding_all first | exact h43 | exact h44)); decide) | ((with_reducible first | apply w_iff'); exact zV; exact zU) | fail
      all_goals try clear tE
      refine w_loopP (S := Nat) (fun i => [(4, .vptr f.cells), (7, .map 0), (8, .map 1), (26, .view (unRows q)), (27, .int .i64 (q.length : Int)), (28, .int .i64 (i : Int))]) [] (fun i H k => TgI f q i H k) (fun i => q.length - i) 0 ?_ rfl ?_ ?_
      · (have tE := aI uU <| Fs.cells.eq_1; simp only [fitsT, List.take_zero, List.length_nil, sp_cons, sp_nil, upd_b, Nat.reduceBEq, cond_true, cond_false, args0_zero, args0_succ, args0_nil, tE]; repeat' first | exact trivial | apply aI | exact Sub.refl _ | exact Sub.cap)
      · refine ⟨Nat.zero_le _, Nat.le_refl 2, ⟨[], [], rfl, rfl, fun a b p q hab hp => by simp at hp, fun a b p q hab hp => by simp at hp, fun x => rfl, fun x => rfl⟩, fun a b u v hab hb => absurd hb (by omega), fun a u ha => absurd ha (by omega)⟩
      · rintro i H k hI
        have hI0 := hI
        obtain ⟨hi, hk2, ⟨M, Pg, e0, e1, nM, nP, gM, gP⟩, hwr, hld⟩ := hI
        have hw : IntKind.i64.wrap ((i : Int) + 1) = ((i + 1 : Nat) : Int) := by rw [wrap64 (by omega) (by omega)]; rfl
        have g0 : (0 ≤ (i : Int)) = True := by simp
        have p0 : ((0 : Nat) == k) = false := by rw [beq_eq_false_iff_ne]; omega
        have p1 : ((1 : Nat) == k) = false := by rw [beq_eq_false_iff_ne]; omega
        have p2 : ((0 : Nat) == k + 1) = false := by rw [beq_eq_false_iff_ne]; omega
        have p3 : ((1 : Nat) == k + 1) = false := by rw [beq_eq_false_iff_ne]; omega
        have p4 : (k == k + 1) = false := by rw [beq_eq_false_iff_ne]; omega
        have p5 : (k == 0) = false := by rw [beq_eq_false_iff_ne]; omega
        have p6 : (k == 1) = false := by rw [beq_eq_false_iff_ne]; omega
        by_cases e : i < q.length
        · have g1 : ((i : Int) < (q.length : Int)) = True := by simp; omega
          obtain ⟨u, hu⟩ : ∃ u, q[i]? = some u := ⟨q[i], List.getElem?_eq_getElem e⟩
          have hru := un_row hu
          obtain ⟨m1, m2, m3⟩ := mayU_parts (hmay u (List.mem_of_getElem? hu))
          obtain ⟨rP, f1, f2, f3⟩ := look_cnt nP u.p
          by_cases hk : u.k = 2
          · have c2 : (u.k == 2) = true := by simp [hk]
            have c1 : (u.k != 1) = true := by simp [hk]
            by_cases hc : getC Pg u.p > 0
            · have g2 : (getC Pg u.p > 0) = True := eq_true hc
              have he : eT c f q = 8 := eT_bad (fun h => by
                rw [gP] at hc
                obtain ⟨a, v, ha, hv, hv1, hv2⟩ := cntP_pos hc
                exact h.2.2.wr a i v u ha hv hu hv1 hk hv2)
              have tE := aI uU <| aI g1 <| aI g0 <| aI hw <| aI hru <| aI p0 <| aI p1 <| aI c2 <| aI c1 <| aI e0 <| aI e1 <| aI f1 <| aI f2 <| aI g2 <| aI Fs.cells.eq_1 <| tfP20.down; repeat' first | (refine Red.h ?_) | ((with_reducible first | apply wz tkP2 | apply wr_z tkP2); exact zZ; decide) | ((with_reducible first | apply wzg tkP2 | apply wr_zg tkP2); exact zU; exact zL; exact zU; exact zZ; decide) | ((with_reducible first | apply w_alloc tkP2); exact zT; decide) | ((with_reducible first | apply w_mapgetg tkP2); exact zU; exact zL; exact zU; exact zV; exact zV; exact zH; exact zT; exact zU; exact zT; exact zU; exact zT; exact zU; exact zT; exact zG; decide) | ((with_reducible first | apply w_store tkP2); exact zV; exact zV; exact zS) | ((with_reducible first | apply w_ift'); exact zV; exact zU) | ((with_reducible apply w_ret); (repeat refine Red.h ?_); (with_reducible apply done_ret tkP2); exact zT; exact zD; exact zX) | fail
              all_goals try clear tE
              rw [he]; rfl
            · have g2 : (getC Pg u.p > 0) = False := eq_false hc
              have tE := aI uU <| aI g1 <| aI g0 <| aI hw <| aI hru <| aI p0 <| aI p1 <| aI c2 <| aI c1 <| aI e0 <| aI e1 <| aI f1 <| aI f2 <| aI g2 <| aI Fs.cells.eq_1 <| tfP20.down; repeat' first | (refine Red.h ?_) | ((with_reducible first | apply wz tkP2 | apply wr_z tkP2); exact zZ; decide) | ((with_reducible first | apply wzg tkP2 | apply wr_zg tkP2); exact zU; exact zL; exact zU; exact zZ; decide) | ((with_reducible first | apply w_alloc tkP2); exact zT; decide) | ((with_reducible first | apply w_mapgetg tkP2); exact zU; exact zL; exact zU; exact zV; exact zV; exact zH; exact zT; exact zU; exact zT; exact zU; exact zT; exact zU; exact zT; exact zG; decide) | ((with_reducible first | apply w_store tkP2); exact zV; exact zV; exact zS) | ((with_reducible first | apply w_ift'); exact zV; exact zU) | ((with_reducible first | apply w_iff'); exact zV; exact zU) | fail
              all_goals try clear tE
              refine ⟨i + 1, by omega, tg_skip hI0 hu hk (by rw [← gP]; exact hc) (fun id hid => ?_) (show 2 ≤ k + 1 by omega), rfl, ?_⟩
              · show upd H k _ id = _
                rw [upd_ne _ _ (by omega)]
              · (have tE := aI uU <| aI hw <| Fs.cells.eq_1; simp only [fitsT, List.take_zero, List.length_nil, sp_cons, sp_nil, upd_b, Nat.reduceBEq, cond_true, cond_false, args0_zero, args0_succ, args0_nil, tE]; repeat' first | exact trivial | apply aI | exact Sub.refl _ | exact Sub.cap)
          · have hk1 : u.k = 1 := by omega
            have c2 : (u.k == 2) = false := by simp [hk]
            have c1 : (u.k != 1) = false := by simp [hk1]
            obtain ⟨a, ha⟩ : ∃ a : Nat, u.f = a := ⟨u.f.toNat, by omega⟩
            have hal : a < f.l.length := by omega
            obtain ⟨x, hx⟩ : ∃ x, f.l[a]? = some x := ⟨_, List.getElem?_eq_getElem hal⟩
            have hr := fr_row hx
            have a0 : (0 ≤ (a : Int)) = True := by simp
            have a1 : ((a : Int) < (f.l.length : Int)) = True := by simp; omega
            have hxt : f.l[u.f.toNat]? = some x := by rw [ha, Int.toNat_natCast]; exact hx
            by_cases hxk : x.k = 1
            · have d1 : (x.k != 1) = false := by simp [hxk]
              by_cases hxp : x.p = u.p
              · have d2 : (x.p != u.p) = false := by simp [hxp]
                obtain ⟨rM, m1, m2, m3⟩ := look_cnt nM (a : Int)
                have lM := cntF_le q i a
                have lP := cntP_le q i u.p
                rw [← gM] at lM
                rw [← gP] at lP
                have wM : IntKind.i64.wrap (getC M (a : Int) + 1) = getC M (a : Int) + 1 := wrap64 (by omega) (by omega)
                have wP : IntKind.i64.wrap (getC Pg u.p + 1) = getC Pg u.p + 1 := wrap64 (by omega) (by omega)
                obtain ⟨M', pm, nM', gM1, gM2⟩ := m3 (getC M (a : Int) + 1)
                obtain ⟨P', pp, nP', gP1, gP2⟩ := f3 (getC Pg u.p + 1)
                have tE := aI uU <| aI g1 <| aI g0 <| aI hw <| aI hru <| aI p0 <| aI p1 <| aI p2 <| aI p3 <| aI p4 <| aI p5 <| aI p6 <| aI c2 <| aI c1 <| aI d1 <| aI d2 <| aI ha <| aI hr <| aI a0 <| aI a1 <| aI e0 <| aI e1 <| aI f1 <| aI f2 <| aI m1 <| aI m2 <| aI wM <| aI wP <| aI pm <| aI pp <| aI Fs.cells.eq_1 <| aI frRows_len <| tfP20.down; repeat' first | (refine Red.h ?_) | ((with_reducible first | apply wz tkP2 | apply wr_z tkP2); exact zZ; decide) | ((with_reducible first | apply wzg tkP2 | apply wr_zg tkP2); exact zU; exact zL; exact zU; exact zZ; decide) | ((with_reducible first | apply wskip' | apply wr_skip); exact zU; exact zL; exact zU; decide) | ((with_reducible first | apply w_alloc tkP2); exact zT; decide) | ((with_reducible first | apply w_mapget tkP2); exact zV; exact zV; exact zH; exact zT; exact zU; exact zT; exact zU; exact zT; exact zU; exact zT; exact zG; decide) | ((with_reducible first | apply w_mapput tkP2); exact zV; exact zV; exact zV; exact zH; exact zT; exact zU; exact zT; exact zU; exact zT; exact zG) | ((with_reducible first | apply w_store tkP2); exact zV; exact zV; exact zS) | ((with_reducible first | apply w_ift'); exact zV; exact zU) | ((with_reducible first | apply w_iff'); exact zV; exact zU) | fail
                all_goals try clear tE
                refine ⟨i + 1, by omega, tg_fetch hI0 hu hk1 hxt hxk hxp gM gP ?_ ?_ nM' nP' (by rw [ha]; exact gM1) (by rw [ha]; exact gM2) gP1 gP2 (show 2 ≤ k + 1 + 1 by omega), rfl, ?_⟩
                · rfl
                · rfl
                · (have tE := aI uU <| aI hw <| Fs.cells.eq_1; simp only [fitsT, List.take_zero, List.length_nil, sp_cons, sp_nil, upd_b, Nat.reduceBEq, cond_true, cond_false, args0_zero, args0_succ, args0_nil, tE]; repeat' first | exact trivial | apply aI | exact Sub.refl _ | exact Sub.cap)
              · have d2 : (x.p != u.p) = true := by simp [hxp]
                have he : eT c f q = 8 := eT_bad (fun h => by
                  obtain ⟨y, h1, h2, h3⟩ := h.2.2.ld i u hu hk1
                  rw [hxt] at h1; cases h1
                  exact hxp h3)
                have tE := aI uU <| aI g1 <| aI g0 <| aI hw <| aI hru <| aI p0 <| aI p1 <| aI p2 <| aI p3 <| aI p4 <| aI c2 <| aI c1 <| aI d1 <| aI d2 <| aI ha <| aI hr <| aI a0 <| aI a1 <| aI e0 <| aI e1 <| aI Fs.cells.eq_1 <| aI frRows_len <| tfP20.down; repeat' first | (refine Red.h ?_) | ((with_reducible first | apply wz tkP2 | apply wr_z tkP2); exact zZ; decide) | ((with_reducible first | apply wzg tkP2 | apply wr_zg tkP2); exact zU; exact zL; exact zU; exact zZ; decide) | ((with_reducible first | apply wskip' | apply wr_skip); exact zU; exact zL; exact zU; decide) | ((with_reducible first | apply w_alloc tkP2); exact zT; decide) | ((with_reducible first | apply w_store tkP2); exact zV; exact zV; exact zS) | ((with_reducible first | apply w_ift'); exact zV; exact zU) | ((with_reducible first | apply w_iff'); exact zV; exact zU) | ((with_reducible apply w_ret); (repeat refine Red.h ?_); (with_reducible apply done_ret tkP2); exact zT; exact zD; exact zX) | fail
                all_goals try clear tE
                rw [he]; rfl
            · have d1 : (x.k != 1) = true := by simp [hxk]
              have he : eT c f q = 8 := eT_bad (fun h => by
                obtain ⟨y, h1, h2, h3⟩ := h.2.2.ld i u hu hk1
                rw [hxt] at h1; cases h1
                exact hxk h2)
              have tE := aI uU <| aI g1 <| aI g0 <| aI hw <| aI hru <| aI p0 <| aI p1 <| aI p2 <| aI p3 <| aI p4 <| aI c2 <| aI c1 <| aI d1 <| aI ha <| aI hr <| aI a0 <| aI a1 <| aI e0 <| aI e1 <| aI Fs.cells.eq_1 <| aI frRows_len <| tfP20.down; repeat' first | (refine Red.h ?_) | ((with_reducible first | apply wz tkP2 | apply wr_z tkP2); exact zZ; decide) | ((with_reducible first | apply wskip' | apply wr_skip); exact zU; exact zL; exact zU; decide) | ((with_reducible first | apply w_alloc tkP2); exact zT; decide) | ((with_reducible first | apply w_store tkP2); exact zV; exact zV; exact zS) | ((with_reducible first | apply w_ift'); exact zV; exact zU) | ((with_reducible first | apply w_iff'); exact zV; exact zU) | ((with_reducible apply w_ret); (repeat refine Red.h ?_); (with_reducible apply done_ret tkP2); exact zT; exact zD; exact zX) | fail
              all_goals try clear tE
              rw [he]; rfl
        · have g1 : ((i : Int) < (q.length : Int)) = False := by simp; omega
          have ei : i = q.length := by omega
          subst ei
          have tE := aI uU <| aI g1 <| aI Fs.cells.eq_1 <| aI frRows_len <| tfP20.down; repeat' first | (refine Red.h ?_) | ((with_reducible first | apply wz tkP2 | apply wr_z tkP2); exact zZ; decide) | ((with_reducible first | apply w_iff'); exact zV; exact zU) | fail
          all_goals try clear tE
          refine w_loopP (S := Nat) (fun j => [(7, .map 0), (73, .view (frRows f.l)), (74, .int .i64 (f.l.length : Int)), (75, .int .i64 (j : Int))]) [] (fun j H' k' => j ≤ f.l.length ∧ 2 ≤ k' ∧ H' 0 = some (.map (entM .i64 .i64 M)) ∧ ∀ (b : Nat) y, b < j → f.l[b]? = some y → y.k = 1 → getC M (b : Int) = 1) (fun j => f.l.length - j) 0 ?_ rfl ?_ ?_
          · (have tE := aI uU <| aI Fs.cells.eq_1 <| frRows_len; simp only [fitsT, List.take_zero, List.length_nil, sp_cons, sp_nil, upd_b, Nat.reduceBEq, cond_true, cond_false, args0_zero, args0_succ, args0_nil, tE]; repeat' first | exact trivial | apply aI | exact Sub.refl _ | exact Sub.cap)
          · exact ⟨Nat.zero_le _, hk2, e0, fun b y hb => absurd hb (by omega)⟩
          · clear hI0 e0 e1 p0 p1 p2 p3 p4 p5 p6 hk2
            rintro j H' k' ⟨hj, hk2, e0, hone⟩
            have hwj : IntKind.i64.wrap ((j : Int) + 1) = ((j + 1 : Nat) : Int) := by rw [wrap64 (by omega) (by omega)]; rfl
            have j0 : (0 ≤ (j : Int)) = True := by simp
            have p0 : ((0 : Nat) == k') = false := by rw [beq_eq_false_iff_ne]; omega
            by_cases ej : j < f.l.length
            · have j1 : ((j : Int) < (f.l.length : Int)) = True := by simp; omega
              obtain ⟨y, hy⟩ : ∃ y, f.l[j]? = some y := ⟨_, List.getElem?_eq_getElem ej⟩
              have hr := fr_row hy
              by_cases hyk : y.k = 1
              · have d1 : (y.k == 1) = true := by simp [hyk]
                obtain ⟨rM, m1, m2, m3⟩ := look_cnt nM (j : Int)
                by_cases h1 : getC M (j : Int) = 1
                · have d2 : (getC M (j : Int) != 1) = false := by simp [h1]
                  have tE := aI uU <| aI j1 <| aI j0 <| aI hwj <| aI hr <| aI p0 <| aI d1 <| aI d2 <| aI e0 <| aI m1 <| aI m2 <| tfP20.down; repeat' first | (refine Red.h ?_) | ((with_reducible first | apply wz tkP2 | apply wr_z tkP2); exact zZ; decide) | ((with_reducible first | apply wzg tkP2 | apply wr_zg tkP2); exact zU; exact zL; exact zU; exact zZ; decide) | ((with_reducible first | apply w_alloc tkP2); exact zT; decide) | ((with_reducible first | apply w_mapgetg tkP2); exact zU; exact zL; exact zU; exact zV; exact zV; exact zH; exact zT; exact zU; exact zT; exact zU; exact zT; exact zU; exact zT; exact zG; decide) | ((with_reducible first | apply w_store tkP2); exact zV; exact zV; exact zS) | ((with_reducible first | apply w_ift'); exact zV; exact zU) | ((with_reducible first | apply w_iff'); exact zV; exact zU) | fail
                  all_goals try clear tE
                  refine ⟨j + 1, by omega, ⟨by omega, by show 2 ≤ k' + 1; omega, ?_, fun b z hb hz hz1 => ?_⟩, rfl, ?_⟩
                  · show upd H' k' _ 0 = _
                    rw [upd_ne _ _ (by omega)]; exact e0
                  · rcases Nat.lt_or_ge b j with h | h
                    · exact hone b z h hz hz1
                    · obtain rfl : b = j := by omega
                      exact h1
                  · (have tE := aI uU <| hwj; simp only [fitsT, List.take_zero, List.length_nil, sp_cons, sp_nil, upd_b, Nat.reduceBEq, cond_true, cond_false, args0_zero, args0_succ, args0_nil, tE]; repeat' first | exact trivial | apply aI | exact Sub.refl _ | exact Sub.cap)
                · have d2 : (getC M (j : Int) != 1) = true := by simp [h1]
                  have he : eT c f q = 8 := eT_bad (fun h => h1 (by
                    have := h.2.2.one j y hy hyk
                    rw [gM, cntF, List.take_length, this]; rfl))
                  have tE := aI uU <| aI j1 <| aI j0 <| aI hwj <| aI hr <| aI p0 <| aI d1 <| aI d2 <| aI e0 <| aI m1 <| aI m2 <| tfP20.down; repeat' first | (refine Red.h ?_) | ((with_reducible first | apply wz tkP2 | apply wr_z tkP2); exact zZ; decide) | ((with_reducible first | apply wzg tkP2 | apply wr_zg tkP2); exact zU; exact zL; exact zU; exact zZ; decide) | ((with_reducible first | apply w_alloc tkP2); exact zT; decide) | ((with_reducible first | apply w_mapgetg tkP2); exact zU; exact zL; exact zU; exact zV; exact zV; exact zH; exact zT; exact zU; exact zT; exact zU; exact zT; exact zU; exact zT; exact zG; decide) | ((with_reducible first | apply w_store tkP2); exact zV; exact zV; exact zS) | ((with_reducible first | apply w_ift'); exact zV; exact zU) | ((with_reducible apply w_ret); (repeat refine Red.h ?_); (with_reducible apply done_ret tkP2); exact zT; exact zD; exact zX) | fail
                  all_goals try clear tE
                  rw [he]; rfl
              · have d1 : (y.k == 1) = false := by simp [hyk]
                have tE := aI uU <| aI j1 <| aI j0 <| aI hwj <| aI hr <| aI p0 <| aI d1 <| aI e0 <| tfP20.down; repeat' first | (refine Red.h ?_) | ((with_reducible first | apply wz tkP2 | apply wr_z tkP2); exact zZ; decide) | ((with_reducible first | apply wskip' | apply wr_skip); exact zU; exact zL; exact zU; decide) | ((with_reducible first | apply w_alloc tkP2); exact zT; decide) | ((with_reducible first | apply w_store tkP2); exact zV; exact zV; exact zS) | ((with_reducible first | apply w_ift'); exact zV; exact zU) | ((with_reducible first | apply w_iff'); exact zV; exact zU) | fail
                all_goals try clear tE
                refine ⟨j + 1, by omega, ⟨by omega, by show 2 ≤ k' + 1; omega, ?_, fun b z hb hz hz1 => ?_⟩, rfl, ?_⟩
                · show upd H' k' _ 0 = _
                  rw [upd_ne _ _ (by omega)]; exact e0
                · rcases Nat.lt_or_ge b j with h | h
                  · exact hone b z h hz hz1
                  · obtain rfl : b = j := by omega
                    rw [hy] at hz; cases hz
                    exact absurd hz1 hyk
                · (have tE := aI uU <| hwj; simp only [fitsT, List.take_zero, List.length_nil, sp_cons, sp_nil, upd_b, Nat.reduceBEq, cond_true, cond_false, args0_zero, args0_succ, args0_nil, tE]; repeat' first | exact trivial | apply aI | exact Sub.refl _ | exact Sub.cap)
            · have j1 : ((j : Int) < (f.l.length : Int)) = False := by simp; omega
              have he : eT c f q = 0 := eT_ok ⟨hok, hqk, ⟨fun a b v w hab hv hw h1 h2 => hwr a b v w hab (List.getElem?_eq_some_iff.1 hw).1 hv hw h1 h2, fun a v hv h1 => hld a v (List.getElem?_eq_some_iff.1 hv).1 hv h1, fun b z hz hz1 => by
                have := hone b z (by have := (List.getElem?_eq_some_iff.1 hz).1; omega) hz hz1
                rw [gM, cntF, List.take_length] at this
                omega⟩⟩
              have tE := aI uU <| aI j1 <| tfP20.down; repeat' first | (refine Red.h ?_) | ((with_reducible first | apply wz tkP2 | apply wr_z tkP2); exact zZ; decide) | ((with_reducible first | apply w_iff'); exact zV; exact zU) | ((with_reducible apply w_ret); (repeat refine Red.h ?_); (with_reducible apply done_ret tkP2); exact zT; exact zD; exact zX) | fail
              all_goals try clear tE
              rw [he]; rfl
end Go.Proofs.YtlmighkbeacjnaaGreatDoor


open Go Go.Lg
set_option linter.unusedSimpArgs false
set_option linter.unusedVariables false
set_option maxHeartbeats 8000000
set_option maxRecDepth 20000
namespace Go.Proofs.YtlmighkbeacjnaaGreatDoor
theorem tkP3 : TOK Tryz.prog (tyOf Tryz.prog) := tok Tryz.prog
def tfP30 := PLift.up (aI ty3 <| aI ty5 <| aI ty27 <| aI ty28 <| aI ty58 <| aI ty60 <| Tryz.results53)
def tfP31 := PLift.up (aI ty3 <| aI ty4 <| aI ty5 <| aI ty24 <| aI ty26 <| aI ty28 <| aI ty72 <| aI ty74 <| Tryz.results30)
def tfP32 := PLift.up (aI ty3 <| aI ty4 <| aI ty5 <| aI ty23 <| aI ty24 <| aI ty26 <| aI ty28 <| aI ty34 <| aI ty60 <| aI ty72 <| aI ty74 <| Tryz.results29)
def tfP33 := PLift.up (aI ty3 <| aI ty4 <| aI ty5 <| aI ty24 <| aI ty26 <| aI ty28 <| aI ty72 <| aI ty74 <| Tryz.results8)
def bbRows (l : List (List UInt8)) : List (List AV) := l.map fun b => [.view (byteRows b)]
theorem bbRows_len (l : List (List UInt8)) : (bbRows l).length = l.length := by simp [bbRows]
theorem bbRows_pur (l : List (List UInt8)) : Pur (.view (bbRows l)) := by
  refine .view fun r hr x hx => ?_
  simp only [bbRows, List.mem_map] at hr
  obtain ⟨b, _, rfl⟩ := hr
  rcases List.mem_singleton.1 hx with rfl
  exact byteRows_pur b
theorem bb_row {l : List (List UInt8)} {i : Nat} {b : List UInt8} (h : l[i]? = some b) : (bbRows l)[i]? = some [.view (byteRows b)] := by simp [bbRows, h]
theorem pf53 (q : List Un) (base : List (List UInt8)) (n : Nat) (hn : n < base.length) (hb : base.length ≤ 1000000) (hq : q.length ≤ 1000000) : PF Tryz.prog 53 [.view (unRows q), .view (bbRows base), .int .i64 (n : Int)] (fun r => r = .view (byteRows (under q base n))) := by
  refine pf_of_w0 Tryz.func53 (c := _) rfl rfl (Nat.le_of_ble_eq_true rfl) (args_3 (unRows_pur q) (bbRows_pur base) (.int _ _)) ?_
  rw [show Tryz.f53.ntmps = 40 from rfl]
  have hqv := unRows_pur q
  obtain ⟨b0, hb0⟩ : ∃ b, base[n]? = some b := ⟨_, List.getElem?_eq_getElem hn⟩
  have hba : baseAt base n = b0 := by rw [baseAt, Int.toNat_natCast, List.getD_eq_getElem?_getD, hb0]; rfl
  have hr := bb_row hb0
  have n0 : (0 ≤ (n : Int)) = True := by simp
  have n1 : ((n : Int) < (base.length : Int)) = True := by simp; exact hn
  have hpb := fun b => byteRows_pur b
  have tE := aI uU <| aI hr <| aI n0 <| aI n1 <| aI bbRows_len <| tfP30.down; repeat' first | (refine Red.h ?_) | ((with_reducible first | apply wz tkP3 | apply wr_z tkP3); exact zZ; decide) | fail
  all_goals try clear tE
  refine w_loopS (S := Nat × List UInt8) (fun s => [(0, .view (unRows q)), (2, .int .i64 (n : Int)), (7, .view (byteRows s.2)), (8, .int .i64 (s.1 : Int))]) (fun _ => []) [] (fun s => s.1 ≤ q.length ∧ under q base n = underL (q.drop s.1) s.2 n) (fun s => q.length - s.1) (0, b0) ?_ ⟨Nat.zero_le _, by rw [under, hba]; rfl⟩ ?_
  · (have tu0 : Pur _ := hqv; have tu1 : Pur _ := hpb b0; have tE := uU; exact kcanS [])
  · rintro ⟨i, b⟩ ⟨hi, hix⟩
    simp only at hi hix
    simp only [St.ofS, List.length_nil]
    have hpv := byteRows_pur b
    have hw : IntKind.i64.wrap ((i : Int) + 1) = ((i + 1 : Nat) : Int) := by rw [wrap64 (by omega) (by omega)]; rfl
    by_cases e : i < q.length
    · have h1 : ((i : Int) < (q.length : Int)) = True := by simp; omega
      have h0 : (0 ≤ (i : Int)) = True := by simp
      obtain ⟨u, hu⟩ : ∃ u, q[i]? = some u := ⟨q[i], List.getElem?_eq_getElem e⟩
      have hru := un_row hu
      have hd : q.drop i = u :: q.drop (i + 1) := by rw [List.drop_eq_getElem_cons e]; rw [List.getElem?_eq_getElem e] at hu; cases hu; rfl
      have hpu := byteRows_pur u.d
      rw [hd, underL] at hix
      by_cases hk : u.k = 2
      · have k1 : (u.k == 2) = true := by simp [hk]
        by_cases hp : u.p = n
        · have k2 : (u.p == (n : Int)) = true := by simp [hp]
          rw [if_pos ⟨hk, hp⟩] at hix
          have tE := aI uU <| aI h1 <| aI h0 <| aI hru <| aI hw <| aI k1 <| aI k2 <| aI unRows_len <| tfP30.down; repeat' first | (refine Red.h ?_) | ((with_reducible first | apply wz tkP3 | apply wr_z tkP3); exact zZ; decide) | ((with_reducible first | apply wzg tkP3 | apply wr_zg tkP3); exact zU; exact zL; exact zU; exact zZ; decide) | ((with_reducible first | apply w_ift'); exact zV; exact zU) | fail
          all_goals try clear tE
          refine ⟨(i + 1, u.d), by simp only; omega, ⟨by simp only; omega, hix⟩, ?_⟩
          (have tu0 : Pur _ := hqv; have tu1 : Pur _ := hpu; have tE := uU; exact kcanS [])
        · have k2 : (u.p == (n : Int)) = false := by simp [hp]
          rw [if_neg (fun h => hp h.2)] at hix
          have tE := aI uU <| aI h1 <| aI h0 <| aI hru <| aI hw <| aI k1 <| aI k2 <| aI unRows_len <| tfP30.down; repeat' first | (refine Red.h ?_) | ((with_reducible first | apply wz tkP3 | apply wr_z tkP3); exact zZ; decide) | ((with_reducible first | apply wzg tkP3 | apply wr_zg tkP3); exact zU; exact zL; exact zU; exact zZ; decide) | ((with_reducible first | apply w_ift'); exact zV; exact zU) | ((with_reducible first | apply w_iff'); exact zV; exact zU) | fail
          all_goals try clear tE
          refine ⟨(i + 1, b), by simp only; omega, ⟨by simp only; omega, hix⟩, ?_⟩
          (have tu0 : Pur _ := hqv; have tu1 : Pur _ := hpv; have tE := uU; exact kcanS [])
      · have k1 : (u.k == 2) = false := by simp [hk]
        rw [if_neg (fun h => hk h.1)] at hix
        have tE := aI uU <| aI h1 <| aI h0 <| aI hru <| aI hw <| aI k1 <| aI unRows_len <| tfP30.down; repeat' first | (refine Red.h ?_) | ((with_reducible first | apply wz tkP3 | apply wr_z tkP3); exact zZ; decide) | ((with_reducible first | apply wskip' | apply wr_skip); exact zU; exact zL; exact zU; decide) | ((with_reducible first | apply w_ift'); exact zV; exact zU) | ((with_reducible first | apply w_iff'); exact zV; exact zU) | fail
        all_goals try clear tE
        refine ⟨(i + 1, b), by simp only; omega, ⟨by simp only; omega, hix⟩, ?_⟩
        (have tu0 : Pur _ := hqv; have tu1 : Pur _ := hpv; have tE := uU; exact kcanS [])
    · have h1 : ((i : Int) < (q.length : Int)) = False := by simp; omega
      have hd : q.drop i = [] := List.drop_eq_nil_iff.2 (by omega)
      rw [hd] at hix
      have tE := aI uU <| aI h1 <| aI unRows_len <| tfP30.down; repeat' first | (refine Red.h ?_) | ((with_reducible first | apply wz tkP3 | apply wr_z tkP3); exact zZ; decide) | ((with_reducible first | apply w_iff'); exact zV; exact zU) | ((with_reducible apply w_ret); (repeat refine Red.h ?_); (with_reducible apply done_ret tkP3); exact zT; exact zD; exact zX) | fail
      all_goals try clear tE
      rw [hix]; rfl
theorem args_4q {a b c d : AV} (ha : Pur a) (hb : Pur b) (hc : Pur c) (hd : Pur d) : ∀ x, x ∈ [a, b, c, d] → Pur x := fun x hx => by
  simp only [List.mem_cons, List.not_mem_nil, or_false] at hx
  rcases hx with rfl | rfl | rfl | rfl <;> assumption
theorem pf30 (f : Fs) (q : List Un) (base : List (List UInt8)) (n : Nat) (hn : n < base.length) (hb : base.length ≤ 1000000) (hq : q.length ≤ 1000000) (hl : f.l.length ≤ 1000000) : PF Tryz.prog 30 [.agg f.cells, .view (unRows q), .view (bbRows base), .int .i64 (n : Int)] (fun r => r = .view (byteRows (content f q base n))) := by
  have h53 := pf53 q base n hn hb hq
  refine pf_of_w0 Tryz.func30 (c := _) rfl rfl (Nat.le_of_ble_eq_true rfl) (args_4q (fsa_pur f) (unRows_pur q) (bbRows_pur base) (.int _ _)) ?_
  rw [show Tryz.f30.ntmps = 44 from rfl]
  have hqv := unRows_pur q
  have hbv := bbRows_pur base
  have hfv : Pur (.vptr f.cells) := .vptr (fs_pur f)
  have tE := aI uU <| aI Fs.cells.eq_1 <| tfP31.down; repeat' first | (refine Red.h ?_) | ((with_reducible first | apply wz tkP3 | apply wr_z tkP3); exact zZ; decide) | fail
  all_goals try clear tE
  refine w_loopS (S := Nat) (fun i => [(1, .view (unRows q)), (2, .view (bbRows base)), (3, .int .i64 (n : Int)), (4, .vptr f.cells), (9, .int .i64 (i : Int))]) (fun _ => []) [] (fun i => i ≤ f.l.length ∧ f.l.find? (isReady n) = (f.l.drop i).find? (isReady n)) (fun i => f.l.length - i) 0 ?_ ⟨Nat.zero_le _, rfl⟩ ?_
  · (have tu0 : Pur _ := hqv; have tu1 : Pur _ := hbv; have tu2 : Pur _ := hfv; have tE := uU; exact kcanS [])
  · rintro i ⟨hi, hix⟩
    simp only [St.ofS, List.length_nil]
    have hw : IntKind.i64.wrap ((i : Int) + 1) = ((i + 1 : Nat) : Int) := by rw [wrap64 (by omega) (by omega)]; rfl
    by_cases e : i < f.l.length
    · have h1 : ((i : Int) < (f.l.length : Int)) = True := by simp; omega
      have h0 : (0 ≤ (i : Int)) = True := by simp
      obtain ⟨u, hu⟩ : ∃ u, f.l[i]? = some u := ⟨f.l[i], List.getElem?_eq_getElem e⟩
      have hr := fr_row hu
      have hd : f.l.drop i = u :: f.l.drop (i + 1) := by rw [List.drop_eq_getElem_cons e]; rw [List.getElem?_eq_getElem e] at hu; cases hu; rfl
      have hpu := byteRows_pur u.d
      rw [hd, List.find?_cons] at hix
      by_cases hk : u.k = 2
      · have c1 : (u.k == 2) = true := by simp [hk]
        by_cases hp : u.p = n
        · have c2 : (u.p == (n : Int)) = true := by simp [hp]
          rw [show isReady n u = true by simp [isReady, hk, hp]] at hix
          have tE := aI uU <| aI h1 <| aI h0 <| aI hr <| aI hw <| aI c1 <| aI c2 <| aI Fs.cells.eq_1 <| aI frRows_len <| tfP31.down; repeat' first | (refine Red.h ?_) | ((with_reducible first | apply wz tkP3 | apply wr_z tkP3); exact zZ; decide) | ((with_reducible first | apply wzg tkP3 | apply wr_zg tkP3); exact zU; exact zL; exact zU; exact zZ; decide) | ((with_reducible first | apply w_ift'); exact zV; exact zU) | ((with_reducible apply w_ret); (repeat refine Red.h ?_); (with_reducible apply done_ret tkP3); exact zT; exact zD; exact zX) | fail
          all_goals try clear tE
          simp only [content, hix]; rfl
        · have c2 : (u.p == (n : Int)) = false := by simp [hp]
          rw [show isReady n u = false by simp [isReady, hp]] at hix
          have tE := aI uU <| aI h1 <| aI h0 <| aI hr <| aI hw <| aI c1 <| aI c2 <| aI Fs.cells.eq_1 <| aI frRows_len <| tfP31.down; repeat' first | (refine Red.h ?_) | ((with_reducible first | apply wz tkP3 | apply wr_z tkP3); exact zZ; decide) | ((with_reducible first | apply wzg tkP3 | apply wr_zg tkP3); exact zU; exact zL; exact zU; exact zZ; decide) | ((with_reducible first | apply w_ift'); exact zV; exact zU) | ((with_reducible first | apply w_iff'); exact zV; exact zU) | fail
          all_goals try clear tE
          refine ⟨i + 1, by omega, ⟨by omega, hix⟩, ?_⟩
          (have tu0 : Pur _ := hqv; have tu1 : Pur _ := hbv; have tu2 : Pur _ := hfv; have tE := uU; exact kcanS [])
      · have c1 : (u.k == 2) = false := by simp [hk]
        rw [show isReady n u = false by simp [isReady, hk]] at hix
        have tE := aI uU <| aI h1 <| aI h0 <| aI hr <| aI hw <| aI c1 <| aI Fs.cells.eq_1 <| aI frRows_len <| tfP31.down; repeat' first | (refine Red.h ?_) | ((with_reducible first | apply wz tkP3 | apply wr_z tkP3); exact zZ; decide) | ((with_reducible first | apply wskip' | apply wr_skip); exact zU; exact zL; exact zU; decide) | ((with_reducible first | apply w_ift'); exact zV; exact zU) | ((with_reducible first | apply w_iff'); exact zV; exact zU) | fail
        all_goals try clear tE
        refine ⟨i + 1, by omega, ⟨by omega, hix⟩, ?_⟩
        (have tu0 : Pur _ := hqv; have tu1 : Pur _ := hbv; have tu2 : Pur _ := hfv; have tE := uU; exact kcanS [])
    · have h1 : ((i : Int) < (f.l.length : Int)) = False := by simp; omega
      have hd : f.l.drop i = [] := List.drop_eq_nil_iff.2 (by omega)
      rw [hd] at hix
      have hpx := byteRows_pur (under q base n)
      have tE := aI uU <| aI h1 <| aI Fs.cells.eq_1 <| aI frRows_len <| tfP31.down; repeat' first | (refine Red.h ?_) | ((with_reducible first | apply wz tkP3 | apply wr_z tkP3); exact zZ; decide) | ((with_reducible first | apply wcall' | apply wr_call); exact zV; exact zVs; exact zAs; (focus (with_unfolding_all first | exact h53)); decide) | ((with_reducible first | apply w_iff'); exact zV; exact zU) | ((with_reducible apply w_ret); (repeat refine Red.h ?_); (with_reducible apply done_ret tkP3); exact zT; exact zD; exact zX) | fail
      all_goals try clear tE
      simp only [content, hix, List.find?_nil]; rfl
open Classical in
/-- What sound tells. -/
noncomputable def sB (c : Cf) (f : Fs) (q : List Un) (base : List (List UInt8)) : Bool := decide (Sound c f q base)
open Classical in
theorem sB_true {c : Cf} {f : Fs} {q : List Un} {base : List (List UInt8)} (h : Sound c f q base) : sB c f q base = true := by unfold sB; exact decide_eq_true h
open Classical in
theorem sB_false {c : Cf} {f : Fs} {q : List Un} {base : List (List UInt8)} (h : ¬ Sound c f q base) : sB c f q base = false := by unfold sB; exact decide_eq_false h
theorem ready_page {c : Cf} {x : Fr} (h : mayF c x = true) (hk : x.k = 2) : 0 ≤ x.p ∧ x.p < c.p ∧ (x.d.length : Int) = c.z := by
  unfold mayF at h
  simp only [Bool.and_eq_true, decide_eq_true_eq] at h
  have h2 := h.2
  rw [hk] at h2
  simp at h2
  exact ⟨h2.1.1, h2.1.2, h2.2⟩
theorem pf29 (c : Cf) (f : Fs) (q : List Un) (base : List (List UInt8)) (hb : base.length ≤ 1000000) (hq : q.length ≤ 1000000) (hl : f.l.length ≤ 1000000) (hpl : ∀ x, x ∈ f.l → x.pins.length ≤ 1000000) : PF Tryz.prog 29 [.agg c.cells, .agg f.cells, .view (unRows q), .view (bbRows base)] (fun r => r = .bool (sB c f q base)) := by
  have h15 := pf15 c f q hl hpl hq
  refine pf_of_w0 Tryz.func29 (c := _) rfl rfl (Nat.le_of_ble_eq_true rfl) (args_4q (cf_pur c) (fsa_pur f) (unRows_pur q) (bbRows_pur base)) ?_
  rw [show Tryz.f29.ntmps = 66 from rfl]
  have hqv := unRows_pur q
  have hbv := bbRows_pur base
  have hfv : Pur (.vptr f.cells) := .vptr (fs_pur f)
  by_cases hlen : (base.length : Int) = c.p
  · have g1 : ((base.length : Int) != c.p) = false := by simp [hlen]
    by_cases ht : okF c f = true ∧ qok c q = true ∧ Tog f q
    · have he := eT_ok ht
      rw [he] at h15
      obtain ⟨k1, k2, k3, k4, k5⟩ := okF_parts ht.1
      have hmay := (okL_iff.1 k5).1
      have tE := aI uU <| aI g1 <| aI Cf.cells.eq_1 <| aI Fs.cells.eq_1 <| aI bbRows_len <| tfP32.down; repeat' first | (refine Red.h ?_) | ((with_reducible first | apply wz tkP3 | apply wr_z tkP3); exact zZ; decide) | ((with_reducible first | apply wzg tkP3 | apply wr_zg tkP3); exact zU; exact zL; exact zU; exact zZ; decide) | ((with_reducible first | apply wcallg' | apply wr_callg); exact zU; exact zL; exact zU; exact zV; exact zVs; exact zAs; (focus (with_unfolding_all first | exact h15)); decide) | ((with_reducible first | apply w_iff'); exact zV; exact zU) | fail
      all_goals try clear tE
      refine w_loopP (S := Nat) (fun i => [(2, .view (unRows q)), (3, .view (bbRows base)), (5, .vptr f.cells), (9, .int .i64 (i : Int))]) [] (fun i H k => i ≤ f.l.length ∧ ∀ (j : Nat) x, j < i → f.l[j]? = some x → x.k = 2 → x.dt = false → x.d = under q base x.p) (fun i => f.l.length - i) 0 ?_ rfl ?_ ?_
      · (have tE := aI uU <| Fs.cells.eq_1; simp only [fitsT, List.take_zero, List.length_nil, sp_cons, sp_nil, upd_b, Nat.reduceBEq, cond_true, cond_false, args0_zero, args0_succ, args0_nil, tE]; repeat' first | exact trivial | apply aI | exact Sub.refl _ | exact Sub.cap)
      · exact ⟨Nat.zero_le _, fun j x hj => absurd hj (by omega)⟩
      · rintro i H k ⟨hi, hall⟩
        have hw : IntKind.i64.wrap ((i : Int) + 1) = ((i + 1 : Nat) : Int) := by rw [wrap64 (by omega) (by omega)]; rfl
        by_cases e : i < f.l.length
        · have h1 : ((i : Int) < (f.l.length : Int)) = True := by simp; omega
          have h0 : (0 ≤ (i : Int)) = True := by simp
          obtain ⟨u, hu⟩ : ∃ u, f.l[i]? = some u := ⟨f.l[i], List.getElem?_eq_getElem e⟩
          have hr := fr_row hu
          have next : (u.k = 2 → u.dt = false → u.d = under q base u.p) → ∀ (j : Nat) x, j < i + 1 → f.l[j]? = some x → x.k = 2 → x.dt = false → x.d = under q base x.p := fun hn j x hj hx h2 h3 => by
            rcases Nat.lt_or_ge j i with h | h
            · exact hall j x h hx h2 h3
            · obtain rfl : j = i := by omega
              rw [hu] at hx; cases hx
              exact hn h2 h3
          by_cases hk : u.k = 2
          · have c1 : (u.k == 2) = true := by simp [hk]
            cases hdt : u.dt with
            | true =>
              have tE := aI uU <| aI h1 <| aI h0 <| aI hr <| aI hw <| aI c1 <| aI hdt <| aI Fs.cells.eq_1 <| aI frRows_len <| tfP32.down; repeat' first | (refine Red.h ?_) | ((with_reducible apply w_live (lvAt [[0, 1, 2, 3], [2, 3, 4, 5], [], [2, 3, 5], [2, 3, 5, 9], [2, 3, 5, 9], [2, 3, 5, 9], [2, 3, 5, 9, 10], [], []])); (focus (simp only [lvAt_zero, lvAt_succ]; rfl)); exact zLv) | ((with_reducible first | apply wz tkP3 | apply wr_z tkP3); exact zZ; decide) | ((with_reducible first | apply wzg tkP3 | apply wr_zg tkP3); exact zU; exact zL; exact zU; exact zZ; decide) | ((with_reducible first | apply wskip' | apply wr_skip); exact zU; exact zL; exact zU; decide) | ((with_reducible first | apply w_alloc tkP3); exact zT; decide) | ((with_reducible first | apply w_store tkP3); exact zV; exact zV; exact zS) | ((with_reducible first | apply w_ift'); exact zV; exact zU) | ((with_reducible first | apply w_iff'); exact zV; exact zU) | ((with_reducible first | apply w_draw0 mixed); (focus (decide +kernel))) | fail
              all_goals try clear tE
              refine ⟨i + 1, by omega, ⟨by omega, next (fun _ h => by rw [hdt] at h; cases h)⟩, rfl, ?_⟩
              (have tE := aI uU <| aI hw <| Fs.cells.eq_1; simp only [fitsT, List.take_zero, List.length_nil, sp_cons, sp_nil, upd_b, Nat.reduceBEq, cond_true, cond_false, args0_zero, args0_succ, args0_nil, tE]; repeat' first | exact trivial | apply aI | exact Sub.refl _ | exact Sub.cap)
            | false =>
              obtain ⟨r1, r2, r3⟩ := ready_page (hmay u (List.mem_of_getElem? hu)) hk
              obtain ⟨n, hn⟩ : ∃ n : Nat, u.p = n := ⟨u.p.toNat, by omega⟩
              have h53 := pf53 q base n (by omega) hb hq
              have h23 := pf23 u.d (under q base n)
              have c2 : ((n : Int) < 0) = False := eq_false (by omega)
              have c3 : ((n : Int) ≥ (base.length : Int)) = False := eq_false (by omega)
              by_cases hs : u.d = under q base n
              · rw [decide_eq_true hs] at h23
                have tE := aI uU <| aI h1 <| aI h0 <| aI hr <| aI hw <| aI c1 <| aI c2 <| aI c3 <| aI hn <| aI hdt <| aI Fs.cells.eq_1 <| aI frRows_len <| aI bbRows_len <| tfP32.down; repeat' first | (refine Red.h ?_) | ((with_reducible apply w_live (lvAt [[0, 1, 2, 3], [2, 3, 4, 5], [], [2, 3, 5], [2, 3, 5, 9], [2, 3, 5, 9], [2, 3, 5, 9], [2, 3, 5, 9, 10], [], []])); (focus (simp only [lvAt_zero, lvAt_succ]; rfl)); exact zLv) | ((with_reducible first | apply wz tkP3 | apply wr_z tkP3); exact zZ; decide) | ((with_reducible first | apply wzg tkP3 | apply wr_zg tkP3); exact zU; exact zL; exact zU; exact zZ; decide) | ((with_reducible first | apply w_alloc tkP3); exact zT; decide) | ((with_reducible first | apply w_store tkP3); exact zV; exact zV; exact zS) | ((with_reducible first | apply wcallg' | apply wr_callg); exact zU; exact zL; exact zU; exact zV; exact zVs; exact zAs; (focus (with_unfolding_all first | exact h53 | exact h23)); decide) | ((with_reducible first | apply w_ift'); exact zV; exact zU) | ((with_reducible first | apply w_iff'); exact zV; exact zU) | ((with_reducible first | apply w_draw0 mixed); (focus (decide +kernel))) | fail
                all_goals try clear tE
                refine ⟨i + 1, by omega, ⟨by omega, next (fun _ _ => by rw [hn]; exact hs)⟩, rfl, ?_⟩
                (have tE := aI uU <| aI hw <| Fs.cells.eq_1; simp only [fitsT, List.take_zero, List.length_nil, sp_cons, sp_nil, upd_b, Nat.reduceBEq, cond_true, cond_false, args0_zero, args0_succ, args0_nil, tE]; repeat' first | exact trivial | apply aI | exact Sub.refl _ | exact Sub.cap)
              · rw [decide_eq_false hs] at h23
                have hsf : sB c f q base = false := sB_false (fun h => hs (by rw [← hn]; exact h.cl i u hu hk hdt))
                have tE := aI uU <| aI h1 <| aI h0 <| aI hr <| aI hw <| aI c1 <| aI c2 <| aI c3 <| aI hn <| aI hdt <| aI Fs.cells.eq_1 <| aI frRows_len <| aI bbRows_len <| tfP32.down; repeat' first | (refine Red.h ?_) | ((with_reducible apply w_live (lvAt [[0, 1, 2, 3], [2, 3, 4, 5], [], [2, 3, 5], [2, 3, 5, 9], [2, 3, 5, 9], [2, 3, 5, 9], [2, 3, 5, 9, 10], [], []])); (focus (simp only [lvAt_zero, lvAt_succ]; rfl)); exact zLv) | ((with_reducible first | apply wz tkP3 | apply wr_z tkP3); exact zZ; decide) | ((with_reducible first | apply wzg tkP3 | apply wr_zg tkP3); exact zU; exact zL; exact zU; exact zZ; decide) | ((with_reducible first | apply w_alloc tkP3); exact zT; decide) | ((with_reducible first | apply w_store tkP3); exact zV; exact zV; exact zS) | ((with_reducible first | apply wcallg' | apply wr_callg); exact zU; exact zL; exact zU; exact zV; exact zVs; exact zAs; (focus (with_unfolding_all first | exact h53 | exact h23)); decide) | ((with_reducible first | apply w_ift'); exact zV; exact zU) | ((with_reducible first | apply w_draw0 mixed); (focus (decide +kernel))) | ((with_reducible apply w_ret); (repeat refine Red.h ?_); (with_reducible apply done_ret tkP3); exact zT; exact zD; exact zX) | fail
                all_goals try clear tE
                rw [hsf]; rfl
          · have c1 : (u.k == 2) = false := by simp [hk]
            have tE := aI uU <| aI h1 <| aI h0 <| aI hr <| aI hw <| aI c1 <| aI Fs.cells.eq_1 <| aI frRows_len <| tfP32.down; repeat' first | (refine Red.h ?_) | ((with_reducible apply w_live (lvAt [[0, 1, 2, 3], [2, 3, 4, 5], [], [2, 3, 5], [2, 3, 5, 9], [2, 3, 5, 9], [2, 3, 5, 9], [2, 3, 5, 9, 10], [], []])); (focus (simp only [lvAt_zero, lvAt_succ]; rfl)); exact zLv) | ((with_reducible first | apply wz tkP3 | apply wr_z tkP3); exact zZ; decide) | ((with_reducible first | apply wskip' | apply wr_skip); exact zU; exact zL; exact zU; decide) | ((with_reducible first | apply w_alloc tkP3); exact zT; decide) | ((with_reducible first | apply w_store tkP3); exact zV; exact zV; exact zS) | ((with_reducible first | apply w_ift'); exact zV; exact zU) | ((with_reducible first | apply w_iff'); exact zV; exact zU) | ((with_reducible first | apply w_draw0 mixed); (focus (decide +kernel))) | fail
            all_goals try clear tE
            refine ⟨i + 1, by omega, ⟨by omega, next (fun h => absurd h hk)⟩, rfl, ?_⟩
            (have tE := aI uU <| aI hw <| Fs.cells.eq_1; simp only [fitsT, List.take_zero, List.length_nil, sp_cons, sp_nil, upd_b, Nat.reduceBEq, cond_true, cond_false, args0_zero, args0_succ, args0_nil, tE]; repeat' first | exact trivial | apply aI | exact Sub.refl _ | exact Sub.cap)
        · have h1 : ((i : Int) < (f.l.length : Int)) = False := by simp; omega
          have hst : sB c f q base = true := sB_true ⟨hlen, ht.1, ht.2.1, ht.2.2, fun j x hx => hall j x (by have := (List.getElem?_eq_some_iff.1 hx).1; omega) hx⟩
          have tE := aI uU <| aI h1 <| aI Fs.cells.eq_1 <| aI frRows_len <| tfP32.down; repeat' first | (refine Red.h ?_) | ((with_reducible first | apply wz tkP3 | apply wr_z tkP3); exact zZ; decide) | ((with_reducible first | apply w_iff'); exact zV; exact zU) | ((with_reducible apply w_ret); (repeat refine Red.h ?_); (with_reducible apply done_ret tkP3); exact zT; exact zD; exact zX) | fail
          all_goals try clear tE
          rw [hst]; rfl
    · have he := eT_bad ht
      rw [he] at h15
      have hsf : sB c f q base = false := sB_false (fun h => ht ⟨h.okf, h.okq, h.tog⟩)
      have tE := aI uU <| aI g1 <| aI Cf.cells.eq_1 <| aI Fs.cells.eq_1 <| aI bbRows_len <| tfP32.down; repeat' first | (refine Red.h ?_) | ((with_reducible first | apply wz tkP3 | apply wr_z tkP3); exact zZ; decide) | ((with_reducible first | apply wzg tkP3 | apply wr_zg tkP3); exact zU; exact zL; exact zU; exact zZ; decide) | ((with_reducible first | apply wcallg' | apply wr_callg); exact zU; exact zL; exact zU; exact zV; exact zVs; exact zAs; (focus (with_unfolding_all first | exact h15)); decide) | ((with_reducible first | apply w_ift'); exact zV; exact zU) | ((with_reducible apply w_ret); (repeat refine Red.h ?_); (with_reducible apply done_ret tkP3); exact zT; exact zD; exact zX) | fail
      all_goals try clear tE
      rw [hsf]; rfl
  · have g1 : ((base.length : Int) != c.p) = true := by simp [hlen]
    have hsf : sB c f q base = false := sB_false (fun h => hlen h.len)
    have tE := aI uU <| aI g1 <| aI Cf.cells.eq_1 <| aI Fs.cells.eq_1 <| aI bbRows_len <| tfP32.down; repeat' first | (refine Red.h ?_) | ((with_reducible first | apply wz tkP3 | apply wr_z tkP3); exact zZ; decide) | ((with_reducible first | apply wskip' | apply wr_skip); exact zU; exact zL; exact zU; decide) | ((with_reducible first | apply w_ift'); exact zV; exact zU) | ((with_reducible apply w_ret); (repeat refine Red.h ?_); (with_reducible apply done_ret tkP3); exact zT; exact zD; exact zX) | fail
    all_goals try clear tE
    rw [hsf]; rfl
theorem pf8 (f : Fs) (q : List Un) : PF Tryz.prog 8 [.agg f.cells, .view (unRows q)] (fun r => r = .bool (greatF f.l || great q)) := by
  have h33 := pf33 f
  have h34 := pf34 q
  refine pf_of_w0 Tryz.func8 (c := _) rfl rfl (Nat.le_of_ble_eq_true rfl) (args_2 (fsa_pur f) (unRows_pur q)) ?_
  rw [show Tryz.f8.ntmps = 11 from rfl]
  cases hg : greatF f.l with
  | true =>
    have tE := aI uU <| aI Fs.cells.eq_1 <| aI hg <| tfP33.down; repeat' first | (refine Red.h ?_) | ((with_reducible first | apply wz tkP3 | apply wr_z tkP3); exact zZ; decide) | ((with_reducible first | apply wskip' | apply wr_skip); exact zU; exact zL; exact zU; decide) | ((with_reducible first | apply wcall' | apply wr_call); exact zV; exact zVs; exact zAs; (focus (with_unfolding_all first | exact h33 | exact h34)); decide) | ((with_reducible apply w_ret); (repeat refine Red.h ?_); (with_reducible apply done_ret tkP3); exact zT; exact zD; exact zX) | fail
    all_goals try clear tE
    rfl
  | false =>
    have tE := aI uU <| aI Fs.cells.eq_1 <| aI hg <| tfP33.down; repeat' first | (refine Red.h ?_) | ((with_reducible first | apply wz tkP3 | apply wr_z tkP3); exact zZ; decide) | ((with_reducible first | apply wzg tkP3 | apply wr_zg tkP3); exact zU; exact zL; exact zU; exact zZ; decide) | ((with_reducible first | apply wcall' | apply wr_call); exact zV; exact zVs; exact zAs; (focus (with_unfolding_all first | exact h33 | exact h34)); decide) | ((with_reducible first | apply wcallg' | apply wr_callg); exact zU; exact zL; exact zU; exact zV; exact zVs; exact zAs; (focus (with_unfolding_all first | exact h33 | exact h34)); decide) | ((with_reducible apply w_ret); (repeat refine Red.h ?_); (with_reducible apply done_ret tkP3); exact zT; exact zD; exact zX) | fail
    all_goals try clear tE
    rfl
end Go.Proofs.YtlmighkbeacjnaaGreatDoor


