/- pool: fetch. pool: fetch, the walk. pool: fetch, where a frame is taken. pool.Twin; errors.As of no error. pool: a call, the walk. pool: a call of a page, the walk. pool.Do, the walk. -/
import Derived.Test.YtlmighkbeacjnaaGreatDoorYh
import Derived.Test.YtlmighkbeacjnaaGreatDoorLm5
import Derived.Test.YtlmighkbeacjnaaGreatDoorYj
import Derived.Test.YtlmighkbeacjnaaGreatDoorEY
import Derived.Test.YtlmighkbeacjnaaGreatDoorYe
import Derived.Test.YtlmighkbeacjnaaGreatDoorYf

open Go Go.Lg
set_option linter.unusedSimpArgs false
set_option linter.unusedVariables false
set_option maxHeartbeats 4000000
set_option maxRecDepth 20000
namespace Go.Proofs.YtlmighkbeacjnaaGreatDoor
/-- What the clock's choice is. -/
structure VicP (c : Cf) (f : Fs) (a : Nat) (x : Fr) : Prop where
  at_ : vicA c f = a
  get : (vicF c f).l[a]? = some x
  k : x.k ≠ 1
  pin : pinned x = false
  ok : okF c (vicF c f) = true
  same : SameK f.l (vicF c f).l
  small : ∀ N : Nat, (∀ y, y ∈ f.l → y.d.length ≤ N ∧ y.pins.length ≤ N) → ∀ y, y ∈ (vicF c f).l → y.d.length ≤ N ∧ y.pins.length ≤ N
theorem vic_parts {c : Cf} {f : Fs} (hok : okF c f = true) (he : vicE c f = 0) : ∃ a x, VicP c f a x := by
  obtain ⟨k1, k2, k3, k4, k5⟩ := okF_parts hok
  have hm : ∀ x, x ∈ f.l → mayF c x = true := (okL_iff.1 k5).1
  cases hv : vic f.l f.h.toNat with
  | none => simp [vicE, hok, hv] at he
  | some i =>
    have hF : vicF c f = ⟨swept f.l f.h.toNat i, (((cat f.h.toNat f.l.length i + 1) % f.l.length : Nat) : Int)⟩ := by simp [vicF, hok, hv]
    have hA : vicA c f = ((cat f.h.toNat f.l.length i : Nat) : Int) := by simp [vicA, hok, hv]
    obtain ⟨t1, ⟨x0, t2, t3, t4⟩, t5⟩ := vic_take hm (by omega) hv
    have hs : skip x0 = false := by
      rw [may_free (hm x0 (List.mem_of_getElem? t2))] at t3; simpa using t3
    simp only [skip, Bool.or_eq_false_iff, decide_eq_false_iff_not] at hs
    have hg := swept_get (h := f.h.toNat) (i := i) t2
    have hsame : ∀ (j : Nat) y, f.l[j]? = some y → ∃ z, (swept f.l f.h.toNat i)[j]? = some z ∧ z.k = y.k ∧ z.p = y.p ∧ z.d = y.d ∧ z.dt = y.dt ∧ z.pins = y.pins := fun j y hy => by
      refine ⟨_, swept_get hy, ?_⟩
      split <;> exact ⟨rfl, rfl, rfl, rfl, rfl⟩
    obtain ⟨z, z1, z2, z3, z4, z5, z6⟩ := hsame _ _ t2
    refine ⟨_, z, hA, by rw [hF]; exact z1, by rw [z2]; exact hs.1, by rw [pinned, z6]; exact hs.2, ?_, ?_, fun N hN y hy => ?_⟩
    · rw [hF]; exact okF_swept hok _ _ _ (Nat.mod_lt _ (by omega))
    · rw [hF]
      exact ⟨swept_len _ _ _, fun j y hy => by obtain ⟨z, z1, z2, z3, z4, z5, _⟩ := hsame j y hy; exact ⟨z, z1, z2, z3, z4, z5⟩⟩
    · rw [hF] at hy
      obtain ⟨j, hj, rfl⟩ := List.getElem_of_mem hy
      have hjl : j < f.l.length := by rwa [swept_len] at hj
      obtain ⟨z, z1, _, _, z4, _, z6⟩ := hsame j _ (List.getElem?_eq_getElem hjl)
      rw [List.getElem?_eq_getElem hj] at z1
      cases z1
      rw [z4, z6]; exact hN _ (List.getElem_mem hjl)
/-- No frame has a page. -/
theorem fidx_no {l : List Fr} {p : Int} (h : fidx (isAt p) l 0 < 0) : ∀ (i : Nat) y, l[i]? = some y → y.k ≠ 0 → y.p ≠ p := fun i y hy hk hp => by
  have := fidx_lt h y (List.mem_of_getElem? hy)
  simp [isAt, hk, hp] at this
theorem fidx_no_of {l : List Fr} {p : Int} (h : ∀ (i : Nat) y, l[i]? = some y → y.k ≠ 0 → y.p ≠ p) : fidx (isAt p) l 0 < 0 := by
  rcases Int.lt_or_le (fidx (isAt p) l 0) 0 with hlt | hge
  · exact hlt
  · obtain ⟨a, x, h1, h2, h3⟩ := fidx_get hge
    simp only [isAt, decide_eq_true_eq] at h3
    exact absurd h3.2 (h a x h2 h3.1)
/-- A frame that may be taken is loaded. -/
theorem load_ok {c : Cf} {f : Fs} {a : Nat} {x : Fr} {page cl : Int} (hV : VicP c f a x) (hno : fidx (isAt page) f.l 0 < 0) (hp : 0 ≤ page ∧ page < c.p) (hcl : 0 ≤ cl ∧ cl < c.cl) :
    turnE c (vicF c f) (a : Int) (fun u => loadE c (vicF c f) (a : Int) page cl u) = 0 ∧ turnF c (vicF c f) (a : Int) (fun u => loadE c (vicF c f) (a : Int) page cl u) (fun u => loadV c page cl u) = ⟨(vicF c f).l.set a (loadV c page cl x), (vicF c f).h⟩ ∧
      okF c ⟨(vicF c f).l.set a (loadV c page cl x), (vicF c f).h⟩ = true := by
  have hno' : fidx (isAt page) (vicF c f).l 0 < 0 := fidx_no_of fun i y hy hk hyp => by
    obtain ⟨z, hz, z1, z2, _⟩ := hV.same.back hy
    exact fidx_no hno i z hz (z1 ▸ hk) (z2 ▸ hyp)
  have hal := (List.getElem?_eq_some_iff.1 hV.get).1
  have hE : turnE c (vicF c f) (a : Int) (fun u => loadE c (vicF c f) (a : Int) page cl u) = 0 := by
    unfold turnE
    rw [if_pos hV.ok, if_neg (by omega), Int.toNat_natCast, hV.get]
    simp only [loadE]
    rw [if_neg]
    rintro (h | h | h | h | h | h | h)
    · exact hV.k h
    · rw [hV.pin] at h; cases h
    all_goals omega
  have hF : turnF c (vicF c f) (a : Int) (fun u => loadE c (vicF c f) (a : Int) page cl u) (fun u => loadV c page cl u) = ⟨(vicF c f).l.set a (loadV c page cl x), (vicF c f).h⟩ := by
    unfold turnF
    rw [if_pos hE, Int.toNat_natCast, hV.get]
  refine ⟨hE, hF, ?_⟩
  obtain ⟨h1, _⟩ := load_find hE
  rwa [hF] at h1
theorem fetU_len (x : Fr) (a p : Int) : (fetU x a p).length ≤ 2 := by
  unfold fetU; split <;> simp
theorem fetU_small {x : Fr} {a p : Int} {N : Nat} (h : x.d.length ≤ N) : ∀ u, u ∈ fetU x a p → u.d.length ≤ N := fun u hu => by
  rcases fetU_mem hu with ⟨_, rfl⟩ | rfl
  · exact h
  · exact Nat.zero_le _
end Go.Proofs.YtlmighkbeacjnaaGreatDoor


open Go Go.Lg
set_option linter.unusedSimpArgs false
set_option linter.unusedVariables false
set_option maxHeartbeats 4000000
set_option maxRecDepth 20000
namespace Go.Proofs.YtlmighkbeacjnaaGreatDoor
theorem tkR2 : TOK Tryz.prog (tyOf Tryz.prog) := tok Tryz.prog
def tfR20 := PLift.up (aI ty3 <| aI ty4 <| aI ty5 <| aI ty23 <| aI ty24 <| aI ty26 <| aI ty27 <| aI ty28 <| aI ty34 <| aI ty36 <| aI ty58 <| aI ty72 <| aI ty74 <| aI ty79 <| aI ty81 <| Tryz.results58)
def tfR21 := PLift.up (aI ty3 <| aI ty5 <| aI ty27 <| aI ty28 <| aI ty58 <| aI ty72 <| aI ty77 <| Tryz.results94)
theorem find_is {c : Cf} {f : Fs} {p : Int} (hok : okF c f = true) : findB c f p = decide (0 ≤ fidx (isAt p) f.l 0) := by rw [findB, hok, Bool.true_and]
/-- A page that has a frame is pinned. -/
theorem ac58_hit (c : Cf) (cl : Int) (p : Po) (page : Int) (a : Nat) (x : Fr) (H : Heap) (n L : Nat) (hL : H L = some (.cells (plC c cl p) 79)) (hLn : L < n) (hok : okF c p.f = true) (hl : p.f.l.length ≤ 1000000) (hd : ∀ x, x ∈ p.f.l → x.d.length ≤ 1000000 ∧ x.pins.length ≤ 1000000) (hq : p.q.length ≤ 1000000)
    (hf : fidx (isAt page) p.f.l 0 = a) (hx : p.f.l[a]? = some x) :
    AC Tryz.prog 58 [.ptr L 0, .int .i64 page] H n (fun r H' n' => r = .ret (errV (turnE c p.f (a : Int) (fun u => pinE c u cl))) ∧
      H' = upd H L (some (.cells (plC c cl { p with w := (if x.k = 1 then ahI c p.q page else p.w), f := (if turnE c p.f (a : Int) (fun u => pinE c u cl) = 0 then turnF c p.f (a : Int) (fun u => pinE c u cl) (fun u => pinV u cl) else p.f) }) 79)) ∧ n' = n) := by
  have h59 := pf59 c p.f page hl (fun x hx => (hd x hx).2)
  rw [find_is hok, findI, find_is hok, hf] at h59
  have hg : decide (0 ≤ (a : Int)) = true := by simp
  rw [hg, if_pos rfl] at h59
  have h99 := pf99 c p.q page hq
  have h100 := (nf100 c p.f (a : Int) cl hl hd).pf
  generalize turnE c p.f (a : Int) (fun u => pinE c u cl) = e at h100 ⊢
  generalize turnF c p.f (a : Int) (fun u => pinE c u cl) (fun u => pinV u cl) = F1 at h100 ⊢
  have hr := fr_row hx
  have hal := (List.getElem?_eq_some_iff.1 hx).1
  have c0 : (0 ≤ (a : Int)) = True := by simp
  have c1 : ((a : Int) < (p.f.l.length : Int)) = True := eq_true (by omega)
  refine ac_of_w Tryz.func58 (c := _) rfl (Nat.le_of_ble_eq_true rfl) ?_
  rw [show Tryz.f58.ntmps = 130 from rfl]
  simp only [Cf.cells, Fs.cells] at h59 h99 h100
  have h60 := fun (p : Po) (H : Heap) (hL : H L = some (.cells (plC c cl p) 79)) => ac60 c cl p F1 e H n L hL
  simp only [plC, Fs.cells] at hL h60
  by_cases hk : x.k = 1
  · have g1 : (x.k == 1) = true := by simp [hk]
    have h60' := h60 { p with w := ahI c p.q page } (upd H L (some (.cells (plC c cl { p with w := ahI c p.q page }) 79))) (upd_same _ _ _)
    rw [if_pos hk]
    simp only [plC] at h60'
    by_cases he : e = 0
    · rw [he] at h60' h100 ⊢
      simp only [if_true] at h60' ⊢
      rw [upd_upd] at h60'
      have tE := aI uU <| aI hL <| aI hr <| aI c0 <| aI c1 <| aI g1 <| aI frRows_len <| tfR20.down; repeat' first | (refine Red.h ?_) | ((with_reducible apply w_live (lvAt [[0, 1], [0, 1], [0, 1, 5, 6], [0, 1, 5], [0, 1, 5], [0, 5], [0, 1], [0, 1, 7, 8, 9], [9], [0, 1, 7, 8], [0, 1, 7, 8, 10], [0, 1, 7, 8], [0, 1, 7, 8, 10], [0, 1, 7, 8, 11], [11], [0, 1, 7, 8]])); (focus (simp only [lvAt_zero, lvAt_succ]; rfl)); exact zLv) | ((with_reducible first | apply wz tkR2 | apply wr_z tkR2); exact zZ; decide) | ((with_reducible first | apply wcall' | apply wr_call); exact zV; exact zVs; exact zAs; (focus (with_unfolding_all first | exact h59 | exact h99 | exact h100)); decide) | ((with_reducible first | apply m_calle); exact zU; exact zV; exact zVs; exact zAs; (focus (first | exact ⟨_, Tryz.func60, rfl, rfl⟩)); (focus (with_unfolding_all first | exact h60')); decide) | ((with_reducible first | apply w_ift'); exact zV; exact zU) | ((with_reducible first | apply fm_nil | apply fm_cons)) | ((with_reducible apply m_next); exact zU) | ((with_reducible apply m_nil0); exact zU) | ((with_reducible first | apply m_v tkR2); exact zU; exact zZ; decide) | ((with_reducible first | apply m_x tkR2); exact zU; (focus (decide +kernel)); exact zZ; decide) | ((with_reducible first | apply m_chg0); exact zU; (focus ((with_reducible apply c_store tkR2); exact zV; exact zV; exact zS))) | ((with_reducible first | apply m_call); exact zU; exact zV; exact zVs; exact zAs; (focus (with_unfolding_all first | exact h59 | exact h99 | exact h100)); decide) | ((with_reducible apply w_drawN (id := 4) [18] [([18], [0, 1, 2, 3, 4, 5, 6, 7, 8, 9, 10, 11, 12, 13, 15, 16, 17, 18, 14])] mixed); (focus (decide +kernel))) | ((with_reducible apply w_drawN (id := 5) [18] [([18], [0, 1, 2, 3, 4, 5, 6, 7, 8, 9, 10, 11, 12, 13, 14, 15, 16, 17, 18, 19])] mixed); (focus (decide +kernel))) | ((with_reducible first | apply w_draw0 mixed); (focus (decide +kernel))) | ((with_reducible apply w_ret); (repeat refine Red.h ?_); (with_reducible first | apply donef_ret tkR2 | apply doneA_ret tkR2); exact zT; exact zD) | fail
      all_goals try clear tE
      exact ⟨rfl, rfl, rfl⟩
    · simp only [if_neg he] at h60' ⊢
      have tE := aI uU <| aI hL <| aI hr <| aI c0 <| aI c1 <| aI g1 <| aI frRows_len <| tfR20.down; repeat' first | (refine Red.h ?_) | ((with_reducible apply w_live (lvAt [[0, 1], [0, 1], [0, 1, 5, 6], [0, 1, 5], [0, 1, 5], [0, 5], [0, 1], [0, 1, 7, 8, 9], [9], [0, 1, 7, 8], [0, 1, 7, 8, 10], [0, 1, 7, 8], [0, 1, 7, 8, 10], [0, 1, 7, 8, 11], [11], [0, 1, 7, 8]])); (focus (simp only [lvAt_zero, lvAt_succ]; rfl)); exact zLv) | ((with_reducible first | apply wz tkR2 | apply wr_z tkR2); exact zZ; decide) | ((with_reducible first | apply wcall' | apply wr_call); exact zV; exact zVs; exact zAs; (focus (with_unfolding_all first | exact h59 | exact h99 | exact h100)); decide) | ((with_reducible first | apply m_calle); exact zU; exact zV; exact zVs; exact zAs; (focus (first | exact ⟨_, Tryz.func60, rfl, rfl⟩)); (focus (with_unfolding_all first | exact h60')); decide) | ((with_reducible first | apply w_ift'); exact zV; exact zU) | ((with_reducible first | apply fm_nil | apply fm_cons)) | ((with_reducible apply m_next); exact zU) | ((with_reducible apply m_nil0); exact zU) | ((with_reducible first | apply m_v tkR2); exact zU; exact zZ; decide) | ((with_reducible first | apply m_x tkR2); exact zU; (focus (decide +kernel)); exact zZ; decide) | ((with_reducible first | apply m_chg0); exact zU; (focus ((with_reducible apply c_store tkR2); exact zV; exact zV; exact zS))) | ((with_reducible first | apply m_call); exact zU; exact zV; exact zVs; exact zAs; (focus (with_unfolding_all first | exact h59 | exact h99 | exact h100)); decide) | ((with_reducible apply w_drawN (id := 4) [18] [([18], [0, 1, 2, 3, 4, 5, 6, 7, 8, 9, 10, 11, 12, 13, 15, 16, 17, 18, 14])] mixed); (focus (decide +kernel))) | ((with_reducible apply w_drawN (id := 5) [18] [([18], [0, 1, 2, 3, 4, 5, 6, 7, 8, 9, 10, 11, 12, 13, 14, 15, 16, 17, 18, 19])] mixed); (focus (decide +kernel))) | ((with_reducible first | apply w_draw0 mixed); (focus (decide +kernel))) | ((with_reducible apply w_ret); (repeat refine Red.h ?_); (with_reducible first | apply donef_ret tkR2 | apply doneA_ret tkR2); exact zT; exact zD) | fail
      all_goals try clear tE
      exact ⟨rfl, rfl, rfl⟩
  · have g1 : (x.k == 1) = false := by simp [hk]
    have h60' := h60 p H hL
    rw [if_neg hk]
    by_cases he : e = 0
    · rw [he] at h60' h100 ⊢
      simp only [if_true] at h60' ⊢
      have tE := aI uU <| aI hL <| aI hr <| aI c0 <| aI c1 <| aI g1 <| aI frRows_len <| tfR20.down; repeat' first | (refine Red.h ?_) | ((with_reducible apply w_live (lvAt [[0, 1], [0, 1], [0, 1, 5, 6], [0, 1, 5], [0, 1, 5], [0, 5], [0, 1], [0, 1, 7, 8, 9], [9], [0, 1, 7, 8], [0, 1, 7, 8, 10], [0, 1, 7, 8], [0, 1, 7, 8, 10], [0, 1, 7, 8, 11], [11], [0, 1, 7, 8]])); (focus (simp only [lvAt_zero, lvAt_succ]; rfl)); exact zLv) | ((with_reducible first | apply wz tkR2 | apply wr_z tkR2); exact zZ; decide) | ((with_reducible first | apply wcall' | apply wr_call); exact zV; exact zVs; exact zAs; (focus (with_unfolding_all first | exact h59 | exact h99 | exact h100)); decide) | ((with_reducible first | apply m_calle); exact zU; exact zV; exact zVs; exact zAs; (focus (first | exact ⟨_, Tryz.func60, rfl, rfl⟩)); (focus (with_unfolding_all first | exact h60')); decide) | ((with_reducible first | apply w_ift'); exact zV; exact zU) | ((with_reducible first | apply w_iff'); exact zV; exact zU) | ((with_reducible first | apply fm_nil | apply fm_cons)) | ((with_reducible apply m_next); exact zU) | ((with_reducible apply m_nil0); exact zU) | ((with_reducible first | apply m_v tkR2); exact zU; exact zZ; decide) | ((with_reducible first | apply m_x tkR2); exact zU; (focus (decide +kernel)); exact zZ; decide) | ((with_reducible first | apply m_call); exact zU; exact zV; exact zVs; exact zAs; (focus (with_unfolding_all first | exact h59 | exact h99 | exact h100)); decide) | ((with_reducible apply w_drawN (id := 5) [18] [([18], [0, 1, 2, 3, 4, 5, 6, 7, 8, 9, 10, 11, 12, 13, 14, 15, 16, 17, 18, 19])] mixed); (focus (decide +kernel))) | ((with_reducible first | apply w_draw0 mixed); (focus (decide +kernel))) | ((with_reducible apply w_ret); (repeat refine Red.h ?_); (with_reducible first | apply donef_ret tkR2 | apply doneA_ret tkR2); exact zT; exact zD) | fail
      all_goals try clear tE
      exact ⟨rfl, rfl, rfl⟩
    · simp only [if_neg he] at h60' ⊢
      have tE := aI uU <| aI hL <| aI hr <| aI c0 <| aI c1 <| aI g1 <| aI frRows_len <| tfR20.down; repeat' first | (refine Red.h ?_) | ((with_reducible apply w_live (lvAt [[0, 1], [0, 1], [0, 1, 5, 6], [0, 1, 5], [0, 1, 5], [0, 5], [0, 1], [0, 1, 7, 8, 9], [9], [0, 1, 7, 8], [0, 1, 7, 8, 10], [0, 1, 7, 8], [0, 1, 7, 8, 10], [0, 1, 7, 8, 11], [11], [0, 1, 7, 8]])); (focus (simp only [lvAt_zero, lvAt_succ]; rfl)); exact zLv) | ((with_reducible first | apply wz tkR2 | apply wr_z tkR2); exact zZ; decide) | ((with_reducible first | apply wcall' | apply wr_call); exact zV; exact zVs; exact zAs; (focus (with_unfolding_all first | exact h59 | exact h99 | exact h100)); decide) | ((with_reducible first | apply m_calle); exact zU; exact zV; exact zVs; exact zAs; (focus (first | exact ⟨_, Tryz.func60, rfl, rfl⟩)); (focus (with_unfolding_all first | exact h60')); decide) | ((with_reducible first | apply w_ift'); exact zV; exact zU) | ((with_reducible first | apply w_iff'); exact zV; exact zU) | ((with_reducible first | apply fm_nil | apply fm_cons)) | ((with_reducible apply m_next); exact zU) | ((with_reducible apply m_nil0); exact zU) | ((with_reducible first | apply m_v tkR2); exact zU; exact zZ; decide) | ((with_reducible first | apply m_x tkR2); exact zU; (focus (decide +kernel)); exact zZ; decide) | ((with_reducible first | apply m_call); exact zU; exact zV; exact zVs; exact zAs; (focus (with_unfolding_all first | exact h59 | exact h99 | exact h100)); decide) | ((with_reducible apply w_drawN (id := 5) [18] [([18], [0, 1, 2, 3, 4, 5, 6, 7, 8, 9, 10, 11, 12, 13, 14, 15, 16, 17, 18, 19])] mixed); (focus (decide +kernel))) | ((with_reducible first | apply w_draw0 mixed); (focus (decide +kernel))) | ((with_reducible apply w_ret); (repeat refine Red.h ?_); (with_reducible first | apply donef_ret tkR2 | apply doneA_ret tkR2); exact zT; exact zD) | fail
      all_goals try clear tE
      refine ⟨rfl, ?_, rfl⟩
      exact (upd_self hL).symm
theorem up1 {H : Heap} {i L : Nat} {X b : Option Blk} (h : L ≠ i) (e : H L = b) : upd H i X L = b := (upd_ne _ _ h).trans e
/-- What lies at an old place, by the hypothesis hL0 of whoever asks. -/
theorem zLk {p : Prop} (h : p := by repeat first | exact hL0 | refine up1 (by omega) ?_) : p := h
theorem find_not {c : Cf} {f : Fs} {page : Int} (hl : f.l.length ≤ 1000000) (hd : ∀ x, x ∈ f.l → x.d.length ≤ 1000000 ∧ x.pins.length ≤ 1000000) (hok : okF c f = true) (hno : fidx (isAt page) f.l 0 < 0) : PF Tryz.prog 59 [.agg c.cells, .agg f.cells, .int .i64 page] (fun r => r = .tuple [.int .i64 0, .bool false]) := by
  have h59 := pf59 c f page hl (fun x hx => (hd x hx).2)
  have hg : decide (0 ≤ fidx (isAt page) f.l 0) = false := decide_eq_false (by omega)
  rw [find_is hok, findI, find_is hok, hg, if_neg (by decide)] at h59
  exact h59
theorem ac58_none (c : Cf) (cl : Int) (p : Po) (page : Int) (H : Heap) (n L : Nat) (hL : H L = some (.cells (plC c cl p) 79)) (hLn : L < n) (hok : okF c p.f = true) (hl : p.f.l.length ≤ 1000000) (hd : ∀ x, x ∈ p.f.l → x.d.length ≤ 1000000 ∧ x.pins.length ≤ 1000000)
    (hno : fidx (isAt page) p.f.l 0 < 0) (he : vicE c p.f ≠ 0) :
    AC Tryz.prog 58 [.ptr L 0, .int .i64 page] H n (fun r H' n' => r = .ret (.iface 34 (.int .i64 (vicE c p.f))) ∧ H' = H ∧ n' = n) := by
  have h59 := find_not hl hd hok hno
  have h101 := (nf101 c p.f hl hd).pf
  generalize vicE c p.f = e at h101 he ⊢
  generalize vicA c p.f = a at h101
  generalize vicF c p.f = g at h101
  have g1 : (e != 0) = true := by simp [he]
  have q1 : (L == n) = false := by rw [beq_eq_false_iff_ne]; omega
  refine ac_normP (.iface (.int _ _)) (ac_of_w Tryz.func58 (c := _) rfl (Nat.le_of_ble_eq_true rfl) ?_)
  rw [show Tryz.f58.ntmps = 130 from rfl]
  simp only [Cf.cells, Fs.cells] at h59 h101
  simp only [plC] at hL
  have tE := aI uU <| aI hL <| aI g1 <| aI q1 <| tfR20.down; repeat' first | (refine Red.h ?_) | ((with_reducible apply w_live (lvAt [[0, 1], [0, 1], [0, 1, 5, 6], [0, 1, 5], [0, 1, 5], [0, 5], [0, 1], [0, 1, 7, 8, 9], [9], [0, 1, 7, 8], [0, 1, 7, 8, 10], [0, 1, 7, 8], [0, 1, 7, 8, 10], [0, 1, 7, 8, 11], [11], [0, 1, 7, 8]])); (focus (simp only [lvAt_zero, lvAt_succ]; rfl)); exact zLv) | ((with_reducible first | apply wz tkR2 | apply wr_z tkR2); exact zZ; decide) | ((with_reducible first | apply wcall' | apply wr_call); exact zV; exact zVs; exact zAs; (focus (with_unfolding_all first | exact h59 | exact h101)); decide) | ((with_reducible first | apply w_ift'); exact zV; exact zU) | ((with_reducible first | apply w_iff'); exact zV; exact zU) | ((with_reducible first | apply fm_nil | apply fm_cons)) | ((with_reducible apply m_next); exact zU) | ((with_reducible first | apply m_v tkR2); exact zU; exact zZ; decide) | ((with_reducible first | apply m_xo tkR2); exact zU; exact zZ; decide) | ((with_reducible apply m_nilO); exact zU; (focus (simp only [List.reverse_cons, List.reverse_nil, List.nil_append, List.cons_append]; rfl)); (focus (simp only [OwedAll, Owed, Nat.reduceAdd]; (repeat' apply And.intro); all_goals first | exact trivial | (intro h; exact absurd h (by decide +kernel)) | (intro _; exact zW)))) | ((with_reducible first | apply m_chg); exact zU; (focus (first | ((with_reducible apply c_alloc tkR2); exact zT) | ((with_reducible apply c_ap); (focus (first | (intro _ ho _ hr _; (with_reducible apply ap_new tkR2 ho (hr := hr)); exact zT; exact zU; exact zT; exact zT; exact zU; exact zA; exact zV; exact zK; exact zM; exact zK; exact zK; decide) | (intro _ ho _ hr _; (with_reducible apply ap_own tkR2 ho (hr := hr)); exact zT; exact zU; exact zT; exact zT; exact zU; exact zV; exact zV; exact zH; exact zKo; exact zM; (focus (first | rfl | assumption)); exact zKo; exact zKo; decide)))))); decide) | ((with_reducible first | apply m_chg0); exact zU; (focus ((with_reducible apply c_store tkR2); exact zV; exact zV; exact zS))) | ((with_reducible first | apply m_call); exact zU; exact zV; exact zVs; exact zAs; (focus (with_unfolding_all first | exact h59 | exact h101)); decide) | ((with_reducible apply w_drawN (id := 6) [14, 15] [([14, 15], [14, 0, 1, 2, 3, 4, 5, 6, 7, 8, 9, 10, 11, 15, 12, 13, 16, 17])] mixed); (focus (decide +kernel))) | ((with_reducible first | apply w_draw0 mixed); (focus (decide +kernel))) | ((with_reducible apply w_ret); (repeat refine Red.h ?_); (with_reducible first | apply donef_ret tkR2 | apply doneA_ret tkR2); exact zT; exact zD) | fail
  all_goals try clear tE
  refine ⟨_, rfl, .pur (.iface (.int _ _)), fun id hid => ?_⟩
  exact upd_ne _ _ (by omega)
theorem fz_unrows {H : Heap} {id : Nat} {cs : List AV} {e : TypeId} {us : List Un} {len : Nat} (hlen : us.length = len) (hH : H id = some (.cells cs e)) (h : FzL H cs (unRows us).flatten) : Fz H (.slice id 0 len none 4) (.view (unRows us)) := by
  subst hlen
  have h1 := h.get
  have := Fz.slice (off := 0) (len := us.length) (cap := none) (sz := 4) hH (by rw [← h1.1, unFlat_len]; omega) (unFlat_len us) (fun i x y hx hy => h1.2 i x y (by simpa using hx) hy)
  have e2 := chunk_flatten (unRows_row us)
  rw [unRows_len] at e2
  rwa [e2] at this
theorem fetU_clean {x : Fr} {a p : Int} (h : x.dt = false) : fetU x a p = [⟨1, p, a, []⟩] := by rw [fetU, if_neg (by rw [h]; decide)]; rfl
theorem fetU_dirty {x : Fr} {a p : Int} (h : x.dt = true) : fetU x a p = [⟨2, x.p, a, x.d⟩, ⟨1, p, a, []⟩] := by rw [fetU, if_pos h]; rfl
/-- One unit that goes back, in new memory. -/
theorem ac94o (c : Cf) (cl : Int) (p : Po) (a : Nat) (x : Fr) (H : Heap) (n L : Nat) (hL : H L = some (.cells (plC c cl p) 79)) (hLn : L < n) (hx : p.f.l[a]? = some x) (hd : x.d.length ≤ 1000000) :
    AC Tryz.prog 94 [.ptr L 0, .view [[.int .i64 (a : Int)]]] H n (fun r H' n' => r = .ret (.slice (n + 1) 0 1 none 4) ∧ H' = upd (upd H n (some (.cells [.ptr L 0] 77))) (n + 1) (some (.cells [.int .u8 2, .int .i64 x.p, .int .i64 (a : Int), .view (byteRows x.d)] 58)) ∧ n' = n + 2) := by
  refine ac_of_w Tryz.func94 (c := _) rfl (Nat.le_of_ble_eq_true rfl) ?_
  rw [show Tryz.f94.ntmps = 23 from rfl]
  have hdv : Pur (.view [[.int .i64 (a : Int)]]) := intRows_pur [(a : Int)]
  have tE := aI uU <| tfR21.down; repeat' first | (refine Red.h ?_) | ((with_reducible apply l_box (d := 2)); exact zV; exact zU; decide) | ((with_reducible first | apply wz tkR2 | apply wr_z tkR2); exact zZ; decide) | fail
  all_goals try clear tE
  refine w_loopP (S := Bool) (fun s => [(4, bif s then .slice (n + 1) 0 1 none 4 else .empty), (5, .func (.func 133) [] [.ptr n 0]), (9, .view [[.int .i64 (a : Int)]]), (10, .int .i64 1), (11, .int .i64 (bif s then 1 else 0))]) [] (fun s H' k => H' = (bif s then upd (upd H n (some (.cells [.ptr L 0] 77))) (n + 1) (some (.cells [.int .u8 2, .int .i64 x.p, .int .i64 (a : Int), .view (byteRows x.d)] 58)) else upd H n (some (.cells [.ptr L 0] 77))) ∧ k = (bif s then n + 2 else n + 1)) (fun s => bif s then 0 else 1) false ?_ rfl ?_ ?_
  · (have tE := aI uU <| aI (@cond_false AV) <| @cond_false Int; simp only [fitsT, List.take_zero, List.length_nil, sp_cons, sp_nil, upd_b, Nat.reduceBEq, cond_true, cond_false, args0_zero, args0_succ, args0_nil, tE]; repeat' first | exact trivial | apply aI | exact Sub.refl _ | exact Sub.cap)
  · exact ⟨rfl, rfl⟩
  · rintro s H' k ⟨hH, hk⟩
    cases s with
    | false =>
      simp only [cond_false] at hH hk
      subst hH hk
      have g1 : ((0 : Int) < 1) = True := by decide
      have g0 : ((0 : Int) ≤ 0) = True := by decide
      have hw : IntKind.i64.wrap ((0 : Int) + 1) = 1 := by decide
      have e0 : upd H n (some (.cells [.ptr L 0] 77)) L = some (.cells (plC c cl p) 79) := by rw [upd_ne _ _ (by omega)]; exact hL
      have h133 := ac133 c cl p a x _ (n + 1) L n e0 (upd_same _ _ _) (by omega) (by omega) hx hd
      simp only [Un.cells] at h133
      have tE := aI uU <| aI g1 <| aI g0 <| aI hw <| aI (@cond_false AV) <| aI (@cond_false Int) <| tfR21.down; repeat' first | (refine Red.h ?_) | ((with_reducible first | apply wz tkR2 | apply wr_z tkR2); exact zZ; decide) | ((with_reducible first | apply w_ap | apply wr_ap); (focus (first | (intro _ ho _ hr _; (with_reducible apply ap_new tkR2 ho (hr := hr)); exact zT; exact zU; exact zT; exact zT; exact zU; exact zA; exact zV; exact zK; exact zM; exact zK; exact zK; decide) | (intro _ ho _ hr _; (with_reducible apply ap_own tkR2 ho (hr := hr)); exact zT; exact zU; exact zT; exact zT; exact zU; exact zV; exact zV; exact zH; exact zKo; exact zM; (focus (first | rfl | assumption)); exact zKo; exact zKo; decide))); decide) | ((with_reducible first | apply wp | apply wr_p); (focus (first | ((with_reducible first | apply pure_bs1 tkR2); exact zT; exact zU; exact zT; exact zP; exact zR; exact zC; decide; decide; exact zU; exact zU))); decide) | ((with_reducible first | apply wacall'); exact zV; exact zVs; exact zAs; (focus (first | exact ⟨_, Tryz.func133, rfl, rfl⟩)); (focus (with_unfolding_all first | exact h133)); decide) | ((with_reducible first | apply w_ift'); exact zV; exact zU) | fail
      all_goals try clear tE
      refine ⟨true, by decide, ⟨rfl, rfl⟩, rfl, ?_⟩
      (have tE := aI uU <| aI hw <| aI (@cond_true AV) <| @cond_true Int; simp only [fitsT, List.take_zero, List.length_nil, sp_cons, sp_nil, upd_b, Nat.reduceBEq, cond_true, cond_false, args0_zero, args0_succ, args0_nil, tE]; repeat' first | exact trivial | apply aI | exact Sub.refl _ | exact Sub.cap)
    | true =>
      simp only [cond_true] at hH hk
      subst hH hk
      have g1 : ((1 : Int) < 1) = False := by decide
      have tE := aI uU <| aI g1 <| aI (@cond_true AV) <| aI (@cond_true Int) <| tfR21.down; repeat' first | (refine Red.h ?_) | ((with_reducible first | apply wz tkR2 | apply wr_z tkR2); exact zZ; decide) | ((with_reducible first | apply w_iff'); exact zV; exact zU) | ((with_reducible apply w_ret); (repeat refine Red.h ?_); (with_reducible first | apply donef_ret tkR2 | apply doneA_ret tkR2); exact zT; exact zD) | fail
      all_goals try clear tE
      exact ⟨rfl, rfl, rfl⟩
theorem ac58_full (c : Cf) (cl : Int) (p : Po) (page : Int) (a : Nat) (x : Fr) (H : Heap) (n L : Nat) (hL : H L = some (.cells (plC c cl p) 79)) (hLn : L < n) (hok : okF c p.f = true) (hl : p.f.l.length ≤ 1000000) (hd : ∀ x, x ∈ p.f.l → x.d.length ≤ 1000000 ∧ x.pins.length ≤ 1000000) (hq : p.q.length ≤ 1000) (hdq : ∀ u, u ∈ p.q → u.d.length ≤ 1000000)
    (hno : fidx (isAt page) p.f.l 0 < 0) (he : vicE c p.f = 0) (hV : VicP c p.f a x) (hpE : putE c p.q (fetU x a page) ≠ 0) :
    AC Tryz.prog 58 [.ptr L 0, .int .i64 page] H n (fun r H' n' => r = .ret (.iface 34 (.int .i64 (putE c p.q (fetU x a page)))) ∧ H' = H ∧ n' = n) := by
  have h59 := find_not hl hd hok hno
  have hd0 := hd
  have h101 := (nf101 c p.f hl hd).pf
  have hsm := hV.small 1000000 hd
  have hxd := (hsm x (List.mem_of_getElem? hV.get)).1
  have hget := hV.get
  have hlen := hV.same.len
  rw [he, hV.at_] at h101
  generalize vicF c p.f = g at h101 hget hlen
  have hr := fr_row hget
  have hal := (List.getElem?_eq_some_iff.1 hget).1
  have c0 : (0 ≤ (a : Int)) = True := by simp
  have c1 : ((a : Int) < (g.l.length : Int)) = True := eq_true (by omega)
  have q1 : (L == n) = false := by rw [beq_eq_false_iff_ne]; omega
  have q2 : (L == n + 1) = false := by rw [beq_eq_false_iff_ne]; omega
  refine ac_normP (.iface (.int _ _)) (ac_of_w Tryz.func58 (c := _) rfl (Nat.le_of_ble_eq_true rfl) ?_)
  rw [show Tryz.f58.ntmps = 130 from rfl]
  simp only [Cf.cells, Fs.cells] at h59 h101
  have hL0 := hL
  simp only [plC] at hL
  cases hd : x.dt with
  | false =>
    have tE := aI uU <| aI hL <| aI q1 <| aI q2 <| aI hr <| aI c0 <| aI c1 <| aI hd <| aI frRows_len <| aI Fr.cells.eq_1 <| tfR20.down; repeat' first | (refine Red.h ?_) | ((with_reducible apply w_live (lvAt [[0, 1], [0, 1], [0, 1, 5, 6], [0, 1, 5], [0, 1, 5], [0, 5], [0, 1], [0, 1, 7, 8, 9], [9], [0, 1, 7, 8], [0, 1, 7, 8, 10], [0, 1, 7, 8], [0, 1, 7, 8, 10], [0, 1, 7, 8, 11], [11], [0, 1, 7, 8]])); (focus (simp only [lvAt_zero, lvAt_succ]; rfl)); exact zLv) | ((with_reducible first | apply wz tkR2 | apply wr_z tkR2); exact zZ; decide) | ((with_reducible first | apply wcall' | apply wr_call); exact zV; exact zVs; exact zAs; (focus (with_unfolding_all first | exact h59 | exact h101)); decide) | ((with_reducible first | apply w_ap | apply wr_ap); (focus (first | (intro _ ho _ hr _; (with_reducible apply ap_new tkR2 ho (hr := hr)); exact zT; exact zU; exact zT; exact zT; exact zU; exact zA; exact zV; exact zK; exact zM; exact zK; exact zK; decide) | (intro _ ho _ hr _; (with_reducible apply ap_own tkR2 ho (hr := hr)); exact zT; exact zU; exact zT; exact zT; exact zU; exact zV; exact zV; exact zH; exact zKo; exact zM; (focus (first | rfl | assumption)); exact zKo; exact zKo; decide))); decide) | ((with_reducible first | apply wp | apply wr_p); (focus (first | ((with_reducible first | apply pure_bs1 tkR2); exact zT; exact zU; exact zT; exact zP; exact zR; exact zC; decide; decide; exact zU; exact zU))); decide) | ((with_reducible first | apply w_iff'); exact zV; exact zU) | ((with_reducible first | apply fm_nil | apply fm_cons)) | ((with_reducible apply m_next); exact zU) | ((with_reducible first | apply m_v tkR2); exact zU; exact zZ; decide) | ((with_reducible first | apply m_xo tkR2); exact zU; exact zZ; decide) | ((with_reducible apply m_nilO); exact zU; (focus (simp only [List.reverse_cons, List.reverse_nil, List.nil_append, List.cons_append]; rfl)); (focus (simp only [OwedAll, Owed, Nat.reduceAdd]; (repeat' apply And.intro); all_goals first | exact trivial | (intro h; exact absurd h (by decide +kernel)) | (intro _; exact zW)))) | ((with_reducible first | apply m_chg); exact zU; (focus (first | ((with_reducible apply c_alloc tkR2); exact zT) | ((with_reducible apply c_ap); (focus (first | (intro _ ho _ hr _; (with_reducible apply ap_new tkR2 ho (hr := hr)); exact zT; exact zU; exact zT; exact zT; exact zU; exact zA; exact zV; exact zK; exact zM; exact zK; exact zK; decide) | (intro _ ho _ hr _; (with_reducible apply ap_own tkR2 ho (hr := hr)); exact zT; exact zU; exact zT; exact zT; exact zU; exact zV; exact zV; exact zH; exact zKo; exact zM; (focus (first | rfl | assumption)); exact zKo; exact zKo; decide)))))); decide) | ((with_reducible first | apply m_chg0); exact zU; (focus ((with_reducible apply c_store tkR2); exact zV; exact zV; exact zS))) | ((with_reducible first | apply m_call); exact zU; exact zV; exact zVs; exact zAs; (focus (with_unfolding_all first | exact h59 | exact h101)); decide) | ((with_reducible apply w_drawN (id := 6) [14, 15] [([14, 15], [14, 0, 1, 2, 3, 4, 5, 6, 7, 8, 9, 10, 11, 15, 12, 13, 16, 17])] mixed); (focus (decide +kernel))) | ((with_reducible first | apply w_draw0 mixed); (focus (decide +kernel))) | fail
    all_goals try clear tE
    have hU := fetU_clean (a := (a : Int)) (p := page) hd
    refine wl_ghost (g_frz1 (d := 109) (id := n + 1) (b := .cells [.int .u8 1, .int .i64 page, .int .i64 (a : Int), .empty] 58) (y := .view (unRows (fetU x a page))) (upd_same _ _ _) rfl (by
      rw [hU]
      exact fz_unrows rfl (if_pos rfl) (.cons (.pur (.int _ _)) (.cons (.pur (.int _ _)) (.cons (.pur (.int _ _)) (.cons .nothing .nil)))))) ?_
    have h93 := fun H2 hL2 => ac93_bad c cl p (fetU x a page) H2 (n + 2) L hL2 hq (Nat.le_trans (fetU_len x a page) (by decide)) hdq (fetU_small hxd) hpE
    have hLx : ∀ X Y Z, upd (upd (upd H n X) (n + 1) Y) (n + 1) Z L = some (.cells (plC c cl p) 79) := fun X Y Z => by rw [upd_ne _ _ (by omega), upd_ne _ _ (by omega), upd_ne _ _ (by omega)]; exact hL0
    have tE := aI uU <| aI hL <| aI q1 <| aI q2 <| tfR20.down; repeat' first | (refine Red.h ?_) | ((with_reducible first | apply wz tkR2 | apply wr_z tkR2); exact zZ; decide) | ((with_reducible first | apply wacall'); exact zV; exact zVs; exact zAs; (focus (first | exact ⟨_, Tryz.func93, rfl, rfl⟩)); (focus (with_unfolding_all first | exact h93 _ (hLx _ _ _))); decide) | ((with_reducible first | apply w_ift'); exact zV; exact zU) | ((with_reducible apply w_ret); (repeat refine Red.h ?_); (with_reducible first | apply donef_ret tkR2 | apply doneA_ret tkR2); exact zT; exact zD) | fail
    all_goals try clear tE
    refine ⟨_, rfl, .pur (.iface (.int _ _)), fun id hid => ?_⟩
    show upd (upd (upd H n _) (n + 1) _) (n + 1) _ id = H id
    rw [upd_ne _ _ (by omega), upd_ne _ _ (by omega), upd_ne _ _ (by omega)]
  | true =>
    have hU := fetU_dirty (a := (a : Int)) (p := page) hd
    obtain ⟨y, hy, y1, y2, y3, y4⟩ := hV.same.back hV.get
    have h94 := fun H2 hL2 => ac94o c cl p a y H2 (n + 1) L hL2 (by omega) hy (hd0 y (List.mem_of_getElem? hy)).1
    rw [← y2, ← y3] at h94
    have hLy : ∀ X, upd H n X L = some (.cells (plC c cl p) 79) := fun X => by rw [upd_ne _ _ (by omega)]; exact hL0
    have tE := aI uU <| aI hL <| aI q1 <| aI q2 <| aI hr <| aI c0 <| aI c1 <| aI hd <| aI frRows_len <| aI Fr.cells.eq_1 <| tfR20.down; repeat' first | (refine Red.h ?_) | ((with_reducible apply w_live (lvAt [[0, 1], [0, 1], [0, 1, 5, 6], [0, 1, 5], [0, 1, 5], [0, 5], [0, 1], [0, 1, 7, 8, 9], [9], [0, 1, 7, 8], [0, 1, 7, 8, 10], [0, 1, 7, 8], [0, 1, 7, 8, 10], [0, 1, 7, 8, 11], [11], [0, 1, 7, 8]])); (focus (simp only [lvAt_zero, lvAt_succ]; rfl)); exact zLv) | ((with_reducible first | apply wz tkR2 | apply wr_z tkR2); exact zZ; decide) | ((with_reducible first | apply wcall' | apply wr_call); exact zV; exact zVs; exact zAs; (focus (with_unfolding_all first | exact h59 | exact h101)); decide) | ((with_reducible first | apply w_ap | apply wr_ap); (focus (first | (intro _ ho _ hr _; (with_reducible apply ap_new tkR2 ho (hr := hr)); exact zT; exact zU; exact zT; exact zT; exact zU; exact zA; exact zV; exact zK; exact zM; exact zK; exact zK; decide) | (intro _ ho _ hr _; (with_reducible apply ap_own tkR2 ho (hr := hr)); exact zT; exact zU; exact zT; exact zT; exact zU; exact zV; exact zV; exact zH; exact zKo; exact zM; (focus (first | rfl | assumption)); exact zKo; exact zKo; decide))); decide) | ((with_reducible first | apply wp | apply wr_p); (focus (first | ((with_reducible first | apply pure_bs1 tkR2); exact zT; exact zU; exact zT; exact zP; exact zR; exact zC; decide; decide; exact zU; exact zU))); decide) | ((with_reducible first | apply wacall'); exact zV; exact zVs; exact zAs; (focus (first | exact ⟨_, Tryz.func94, rfl, rfl⟩)); (focus (with_unfolding_all first | exact h94 _ (hLy _))); decide) | ((with_reducible first | apply w_ift'); exact zV; exact zU) | ((with_reducible first | apply w_iff'); exact zV; exact zU) | ((with_reducible first | apply fm_nil | apply fm_cons)) | ((with_reducible apply m_next); exact zU) | ((with_reducible first | apply m_v tkR2); exact zU; exact zZ; decide) | ((with_reducible first | apply m_xo tkR2); exact zU; exact zZ; decide) | ((with_reducible apply m_nilO); exact zU; (focus (simp only [List.reverse_cons, List.reverse_nil, List.nil_append, List.cons_append]; rfl)); (focus (simp only [OwedAll, Owed, Nat.reduceAdd]; (repeat' apply And.intro); all_goals first | exact trivial | (intro h; exact absurd h (by decide +kernel)) | (intro _; exact zW)))) | ((with_reducible first | apply m_chg); exact zU; (focus (first | ((with_reducible apply c_alloc tkR2); exact zT) | ((with_reducible apply c_ap); (focus (first | (intro _ ho _ hr _; (with_reducible apply ap_new tkR2 ho (hr := hr)); exact zT; exact zU; exact zT; exact zT; exact zU; exact zA; exact zV; exact zK; exact zM; exact zK; exact zK; decide) | (intro _ ho _ hr _; (with_reducible apply ap_own tkR2 ho (hr := hr)); exact zT; exact zU; exact zT; exact zT; exact zU; exact zV; exact zV; exact zH; exact zKo; exact zM; (focus (first | rfl | assumption)); exact zKo; exact zKo; decide)))))); decide) | ((with_reducible first | apply m_chg0); exact zU; (focus ((with_reducible apply c_store tkR2); exact zV; exact zV; exact zS))) | ((with_reducible first | apply m_call); exact zU; exact zV; exact zVs; exact zAs; (focus (with_unfolding_all first | exact h59 | exact h101)); decide) | ((with_reducible apply w_drawN (id := 6) [14, 15] [([14, 15], [14, 0, 1, 2, 3, 4, 5, 6, 7, 8, 9, 10, 11, 15, 12, 13, 16, 17])] mixed); (focus (decide +kernel))) | ((with_reducible first | apply w_draw0 mixed); (focus (decide +kernel))) | fail
    all_goals try clear tE
    refine wl_ghost (g_frz1 (d := 109) (id := n + 1 + 2) (b := .cells ([.int .u8 2, .int .i64 x.p, .int .i64 (a : Int), .view (byteRows x.d)] ++ [.int .u8 1, .int .i64 page, .int .i64 (a : Int), .empty]) 58) (y := .view (unRows (fetU x a page))) (upd_same _ _ _) rfl (by
      rw [hU]
      exact fz_unrows (us := [⟨2, x.p, a, x.d⟩, ⟨1, page, a, []⟩]) rfl (if_pos rfl) (.cons (.pur (.int _ _)) (.cons (.pur (.int _ _)) (.cons (.pur (.int _ _)) (.cons (.pur (byteRows_pur _)) (.cons (.pur (.int _ _)) (.cons (.pur (.int _ _)) (.cons (.pur (.int _ _)) (.cons .nothing .nil)))))))))) ?_
    have h93 := fun H2 hL2 => ac93_bad c cl p (fetU x a page) H2 (n + 1 + 2 + 1) L hL2 hq (Nat.le_trans (fetU_len x a page) (by decide)) hdq (fetU_small hxd) hpE
    have tE := aI uU <| aI hL <| aI q1 <| aI q2 <| tfR20.down; repeat' first | (refine Red.h ?_) | ((with_reducible first | apply wz tkR2 | apply wr_z tkR2); exact zZ; decide) | ((with_reducible first | apply wacall'); exact zV; exact zVs; exact zAs; (focus (first | exact ⟨_, Tryz.func93, rfl, rfl⟩)); (focus (with_unfolding_all first | exact h93 _ zLk)); decide) | ((with_reducible first | apply w_ift'); exact zV; exact zU) | ((with_reducible apply w_ret); (repeat refine Red.h ?_); (with_reducible first | apply donef_ret tkR2 | apply doneA_ret tkR2); exact zT; exact zD) | fail
    all_goals try clear tE
    refine ⟨_, rfl, .pur (.iface (.int _ _)), fun id hid => ?_⟩
    show upd (upd (upd (upd (upd (upd H n _) (n + 1) _) (n + 1 + 1) _) (n + 1 + 1) _) (n + 1 + 2) _) (n + 1 + 2) _ id = H id
    repeat rw [upd_ne _ _ (by omega)]
end Go.Proofs.YtlmighkbeacjnaaGreatDoor


open Go Go.Lg
set_option linter.unusedSimpArgs false
set_option linter.unusedVariables false
set_option maxHeartbeats 4000000
set_option maxRecDepth 20000
namespace Go.Proofs.YtlmighkbeacjnaaGreatDoor
theorem tkR3 : TOK Tryz.prog (tyOf Tryz.prog) := tok Tryz.prog
def tfR30 := PLift.up (aI ty3 <| aI ty4 <| aI ty5 <| aI ty23 <| aI ty24 <| aI ty26 <| aI ty27 <| aI ty28 <| aI ty34 <| aI ty36 <| aI ty58 <| aI ty72 <| aI ty74 <| aI ty79 <| aI ty81 <| Tryz.results58)
theorem ac58_ok (c : Cf) (cl : Int) (p : Po) (page : Int) (a : Nat) (x : Fr) (H : Heap) (n L : Nat) (hL : H L = some (.cells (plC c cl p) 79)) (hLn : L < n) (hok : okF c p.f = true) (hl : p.f.l.length ≤ 1000000) (hd : ∀ x, x ∈ p.f.l → x.d.length ≤ 1000000 ∧ x.pins.length ≤ 1000000) (hq : p.q.length ≤ 1000) (hdq : ∀ u, u ∈ p.q → u.d.length ≤ 1000000)
    (hno : fidx (isAt page) p.f.l 0 < 0) (he : vicE c p.f = 0) (hV : VicP c p.f a x) (hp : 0 ≤ page ∧ page < c.p) (hcl : 0 ≤ cl ∧ cl < c.cl) (hpE : putE c p.q (fetU x a page) = 0) :
    AC Tryz.prog 58 [.ptr L 0, .int .i64 page] H n (fun r H' n' => r = .ret .nilIface ∧ H' = upd H L (some (.cells (plC c cl { p with f := ⟨(vicF c p.f).l.set a (loadV c page cl x), (vicF c p.f).h⟩, q := putU c p.q (fetU x a page), w := (putU c p.q (fetU x a page)).length }) 79)) ∧ n' = n) := by
  have h59 := find_not hl hd hok hno
  have hd0 := hd
  have h101 := (nf101 c p.f hl hd).pf
  have hsm := hV.small 1000000 hd
  have hxd := (hsm x (List.mem_of_getElem? hV.get)).1
  have hget := hV.get
  have hlen := hV.same.len
  obtain ⟨l1, l2, l3⟩ := load_ok hV hno hp hcl
  have h102 := (nf102 c (vicF c p.f) (a : Int) page cl (by rw [hlen]; exact hl) hsm).pf
  rw [l1, l2] at h102
  rw [he, hV.at_] at h101
  obtain ⟨y, hy, y1, y2, y3, y4⟩ := hV.same.back hV.get
  have hlf := (List.getElem?_eq_some_iff.1 hy).1
  have hyd := (hd0 y (List.mem_of_getElem? hy)).1
  clear l1 l2 l3 hV hsm
  generalize vicF c p.f = g at h101 h102 hget hlen ⊢
  have hr := fr_row hget
  have hal := (List.getElem?_eq_some_iff.1 hget).1
  have c0 : (0 ≤ (a : Int)) = True := by simp
  have c1 : ((a : Int) < (g.l.length : Int)) = True := eq_true (by omega)
  have q1 : (L == n) = false := by rw [beq_eq_false_iff_ne]; omega
  have q2 : (L == n + 1) = false := by rw [beq_eq_false_iff_ne]; omega
  have q3 : (n == L) = false := by rw [beq_eq_false_iff_ne]; omega
  have q4 : (n == n + 1) = false := by rw [beq_eq_false_iff_ne]; omega
  have q5 : (n == n + 1 + 1) = false := by rw [beq_eq_false_iff_ne]; omega
  have q6 : (n == n + 1 + 2) = false := by rw [beq_eq_false_iff_ne]; omega
  refine ac_normQ .nilIface (by rw [hL]; simp) (pl_pur c cl _) (ac_of_w Tryz.func58 (c := _) rfl (Nat.le_of_ble_eq_true rfl) ?_)
  rw [show Tryz.f58.ntmps = 130 from rfl]
  have h93 := fun n' H2 hL2 => ac93_ok c cl p (fetU x a page) H2 n' L hL2 hq (Nat.le_trans (fetU_len x a page) (by decide)) hdq (fetU_small hxd) hpE
  have hR : ({ p with f := ⟨g.l.set a (loadV c page cl x), g.h⟩, q := putU c p.q (fetU x a page), w := (putU c p.q (fetU x a page)).length } : Po) = { ({ p with q := putU c p.q (fetU x a page), w := (putU c p.q (fetU x a page)).length } : Po) with f := ⟨g.l.set a (loadV c page cl x), g.h⟩ } := rfl
  rw [hR]
  generalize ({ p with q := putU c p.q (fetU x a page), w := (putU c p.q (fetU x a page)).length } : Po) = p1 at h93 ⊢
  have h60 := fun n' H2 hL2 => ac60_ok c cl p1 ⟨g.l.set a (loadV c page cl x), g.h⟩ H2 n' L hL2
  simp only [Cf.cells, Fs.cells] at h59 h101 h102 h60
  have hL0 := hL
  simp only [plC] at hL
  generalize hgen : g.l.set a (loadV c page cl x) = m at h102 h60 ⊢
  cases hd : x.dt with
  | false =>
    have tE := aI uU <| aI hL <| aI q1 <| aI q2 <| aI hr <| aI c0 <| aI c1 <| aI hd <| aI frRows_len <| aI Fr.cells.eq_1 <| tfR30.down; repeat' first | (refine Red.h ?_) | ((with_reducible apply w_live (lvAt [[0, 1], [0, 1], [0, 1, 5, 6], [0, 1, 5], [0, 1, 5], [0, 5], [0, 1], [0, 1, 7, 8, 9], [9], [0, 1, 7, 8], [0, 1, 7, 8, 10], [0, 1, 7, 8], [0, 1, 7, 8, 10], [0, 1, 7, 8, 11], [11], [0, 1, 7, 8]])); (focus (simp only [lvAt_zero, lvAt_succ]; rfl)); exact zLv) | ((with_reducible first | apply wz tkR3 | apply wr_z tkR3); exact zZ; decide) | ((with_reducible first | apply wcall' | apply wr_call); exact zV; exact zVs; exact zAs; (focus (with_unfolding_all first | exact h59 | exact h101)); decide) | ((with_reducible first | apply w_ap | apply wr_ap); (focus (first | (intro _ ho _ hr _; (with_reducible apply ap_new tkR3 ho (hr := hr)); exact zT; exact zU; exact zT; exact zT; exact zU; exact zA; exact zV; exact zK; exact zM; exact zK; exact zK; decide) | (intro _ ho _ hr _; (with_reducible apply ap_own tkR3 ho (hr := hr)); exact zT; exact zU; exact zT; exact zT; exact zU; exact zV; exact zV; exact zH; exact zKo; exact zM; (focus (first | rfl | assumption)); exact zKo; exact zKo; decide))); decide) | ((with_reducible first | apply wp | apply wr_p); (focus (first | ((with_reducible first | apply pure_bs1 tkR3); exact zT; exact zU; exact zT; exact zP; exact zR; exact zC; decide; decide; exact zU; exact zU))); decide) | ((with_reducible first | apply w_iff'); exact zV; exact zU) | ((with_reducible first | apply fm_nil | apply fm_cons)) | ((with_reducible apply m_next); exact zU) | ((with_reducible first | apply m_v tkR3); exact zU; exact zZ; decide) | ((with_reducible first | apply m_xo tkR3); exact zU; exact zZ; decide) | ((with_reducible apply m_nilO); exact zU; (focus (simp only [List.reverse_cons, List.reverse_nil, List.nil_append, List.cons_append]; rfl)); (focus (simp only [OwedAll, Owed, Nat.reduceAdd]; (repeat' apply And.intro); all_goals first | exact trivial | (intro h; exact absurd h (by decide +kernel)) | (intro _; exact zW)))) | ((with_reducible first | apply m_chg); exact zU; (focus (first | ((with_reducible apply c_alloc tkR3); exact zT) | ((with_reducible apply c_ap); (focus (first | (intro _ ho _ hr _; (with_reducible apply ap_new tkR3 ho (hr := hr)); exact zT; exact zU; exact zT; exact zT; exact zU; exact zA; exact zV; exact zK; exact zM; exact zK; exact zK; decide) | (intro _ ho _ hr _; (with_reducible apply ap_own tkR3 ho (hr := hr)); exact zT; exact zU; exact zT; exact zT; exact zU; exact zV; exact zV; exact zH; exact zKo; exact zM; (focus (first | rfl | assumption)); exact zKo; exact zKo; decide)))))); decide) | ((with_reducible first | apply m_chg0); exact zU; (focus ((with_reducible apply c_store tkR3); exact zV; exact zV; exact zS))) | ((with_reducible first | apply m_call); exact zU; exact zV; exact zVs; exact zAs; (focus (with_unfolding_all first | exact h59 | exact h101)); decide) | ((with_reducible apply w_drawN (id := 6) [14, 15] [([14, 15], [14, 0, 1, 2, 3, 4, 5, 6, 7, 8, 9, 10, 11, 15, 12, 13, 16, 17])] mixed); (focus (decide +kernel))) | ((with_reducible first | apply w_draw0 mixed); (focus (decide +kernel))) | fail
    all_goals try clear tE
    have hU := fetU_clean (a := (a : Int)) (p := page) hd
    refine wl_ghost (g_frz1 (d := 109) (id := n + 1) (b := .cells [.int .u8 1, .int .i64 page, .int .i64 (a : Int), .empty] 58) (y := .view (unRows (fetU x a page))) (upd_same _ _ _) rfl (by
      rw [hU]
      exact fz_unrows rfl (if_pos rfl) (.cons (.pur (.int _ _)) (.cons (.pur (.int _ _)) (.cons (.pur (.int _ _)) (.cons .nothing .nil)))))) ?_
    have tE := aI uU <| aI hL <| aI q1 <| aI q2 <| aI q3 <| aI q4 <| aI plC.eq_1 <| tfR30.down; repeat' first | (refine Red.h ?_) | ((with_reducible apply w_live (lvAt [[0, 1], [0, 1], [0, 1, 5, 6], [0, 1, 5], [0, 1, 5], [0, 5], [0, 1], [0, 1, 7, 8, 9], [9], [0, 1, 7, 8], [0, 1, 7, 8, 10], [0, 1, 7, 8], [0, 1, 7, 8, 10], [0, 1, 7, 8, 11], [11], [0, 1, 7, 8]])); (focus (simp only [lvAt_zero, lvAt_succ]; rfl)); exact zLv) | ((with_reducible first | apply wz tkR3 | apply wr_z tkR3); exact zZ; decide) | ((with_reducible first | apply wp | apply wr_p); (focus (first | ((with_reducible first | apply p_inil tkR3 | apply p_innil tkR3); exact zT; exact zU; exact zV; exact zU))); decide) | ((with_reducible first | apply wacall'); exact zV; exact zVs; exact zAs; (focus (first | exact ⟨_, Tryz.func60, rfl, rfl⟩ | exact ⟨_, Tryz.func93, rfl, rfl⟩)); (focus (with_unfolding_all first | exact h93 _ _ zLk | exact h60 _ _ (upd_same _ _ _))); decide) | ((with_reducible first | apply m_calle); exact zU; exact zV; exact zVs; exact zAs; (focus (first | exact ⟨_, Tryz.func60, rfl, rfl⟩ | exact ⟨_, Tryz.func93, rfl, rfl⟩)); (focus (with_unfolding_all first | exact h93 _ _ zLk | exact h60 _ _ (upd_same _ _ _))); decide) | ((with_reducible first | apply w_iff'); exact zV; exact zU) | ((with_reducible first | apply fm_nil | apply fm_cons)) | ((with_reducible apply m_next); exact zU) | ((with_reducible apply m_nil0); exact zU) | ((with_reducible first | apply m_v tkR3); exact zU; exact zZ; decide) | ((with_reducible first | apply m_x tkR3); exact zU; (focus (decide +kernel)); exact zZ; decide) | ((with_reducible first | apply m_call); exact zU; exact zV; exact zVs; exact zAs; (focus (with_unfolding_all first | exact h102)); decide) | ((with_reducible apply w_drawN (id := 15) [15] [([15], [0, 1, 2, 3, 4, 5, 6, 7, 8, 9, 10, 11, 12, 13, 14, 15, 16])] mixed); (focus (decide +kernel))) | ((with_reducible apply w_ret); (repeat refine Red.h ?_); (with_reducible first | apply donef_ret tkR3 | apply doneA_ret tkR3); exact zT; exact zD) | fail
    all_goals try clear tE
    refine ⟨_, rfl, .pur .nilIface, upd_same _ _ _, fun id hid hne => ?_⟩
    dsimp only
    repeat rw [upd_ne _ _ (by omega)]
  | true =>
    have h94 := fun H2 hL2 => ac94o c cl p a y H2 (n + 1) L hL2 (by omega) hy hyd
    rw [← y2, ← y3] at h94
    have hLy : ∀ X, upd H n X L = some (.cells (plC c cl p) 79) := fun X => by rw [upd_ne _ _ (by omega)]; exact hL0
    have tE := aI uU <| aI hL <| aI q1 <| aI q2 <| aI hr <| aI c0 <| aI c1 <| aI hd <| aI frRows_len <| aI Fr.cells.eq_1 <| tfR30.down; repeat' first | (refine Red.h ?_) | ((with_reducible apply w_live (lvAt [[0, 1], [0, 1], [0, 1, 5, 6], [0, 1, 5], [0, 1, 5], [0, 5], [0, 1], [0, 1, 7, 8, 9], [9], [0, 1, 7, 8], [0, 1, 7, 8, 10], [0, 1, 7, 8], [0, 1, 7, 8, 10], [0, 1, 7, 8, 11], [11], [0, 1, 7, 8]])); (focus (simp only [lvAt_zero, lvAt_succ]; rfl)); exact zLv) | ((with_reducible first | apply wz tkR3 | apply wr_z tkR3); exact zZ; decide) | ((with_reducible first | apply wcall' | apply wr_call); exact zV; exact zVs; exact zAs; (focus (with_unfolding_all first | exact h59 | exact h101)); decide) | ((with_reducible first | apply w_ap | apply wr_ap); (focus (first | (intro _ ho _ hr _; (with_reducible apply ap_new tkR3 ho (hr := hr)); exact zT; exact zU; exact zT; exact zT; exact zU; exact zA; exact zV; exact zK; exact zM; exact zK; exact zK; decide) | (intro _ ho _ hr _; (with_reducible apply ap_own tkR3 ho (hr := hr)); exact zT; exact zU; exact zT; exact zT; exact zU; exact zV; exact zV; exact zH; exact zKo; exact zM; (focus (first | rfl | assumption)); exact zKo; exact zKo; decide))); decide) | ((with_reducible first | apply wp | apply wr_p); (focus (first | ((with_reducible first | apply pure_bs1 tkR3); exact zT; exact zU; exact zT; exact zP; exact zR; exact zC; decide; decide; exact zU; exact zU))); decide) | ((with_reducible first | apply wacall'); exact zV; exact zVs; exact zAs; (focus (first | exact ⟨_, Tryz.func94, rfl, rfl⟩)); (focus (with_unfolding_all first | exact h94 _ (hLy _))); decide) | ((with_reducible first | apply w_ift'); exact zV; exact zU) | ((with_reducible first | apply w_iff'); exact zV; exact zU) | ((with_reducible first | apply fm_nil | apply fm_cons)) | ((with_reducible apply m_next); exact zU) | ((with_reducible first | apply m_v tkR3); exact zU; exact zZ; decide) | ((with_reducible first | apply m_xo tkR3); exact zU; exact zZ; decide) | ((with_reducible apply m_nilO); exact zU; (focus (simp only [List.reverse_cons, List.reverse_nil, List.nil_append, List.cons_append]; rfl)); (focus (simp only [OwedAll, Owed, Nat.reduceAdd]; (repeat' apply And.intro); all_goals first | exact trivial | (intro h; exact absurd h (by decide +kernel)) | (intro _; exact zW)))) | ((with_reducible first | apply m_chg); exact zU; (focus (first | ((with_reducible apply c_alloc tkR3); exact zT) | ((with_reducible apply c_ap); (focus (first | (intro _ ho _ hr _; (with_reducible apply ap_new tkR3 ho (hr := hr)); exact zT; exact zU; exact zT; exact zT; exact zU; exact zA; exact zV; exact zK; exact zM; exact zK; exact zK; decide) | (intro _ ho _ hr _; (with_reducible apply ap_own tkR3 ho (hr := hr)); exact zT; exact zU; exact zT; exact zT; exact zU; exact zV; exact zV; exact zH; exact zKo; exact zM; (focus (first | rfl | assumption)); exact zKo; exact zKo; decide)))))); decide) | ((with_reducible first | apply m_chg0); exact zU; (focus ((with_reducible apply c_store tkR3); exact zV; exact zV; exact zS))) | ((with_reducible first | apply m_call); exact zU; exact zV; exact zVs; exact zAs; (focus (with_unfolding_all first | exact h59 | exact h101)); decide) | ((with_reducible apply w_drawN (id := 6) [14, 15] [([14, 15], [14, 0, 1, 2, 3, 4, 5, 6, 7, 8, 9, 10, 11, 15, 12, 13, 16, 17])] mixed); (focus (decide +kernel))) | ((with_reducible first | apply w_draw0 mixed); (focus (decide +kernel))) | fail
    all_goals try clear tE
    have hU := fetU_dirty (a := (a : Int)) (p := page) hd
    refine wl_ghost (g_frz1 (d := 109) (id := n + 1 + 2) (b := .cells ([.int .u8 2, .int .i64 x.p, .int .i64 (a : Int), .view (byteRows x.d)] ++ [.int .u8 1, .int .i64 page, .int .i64 (a : Int), .empty]) 58) (y := .view (unRows (fetU x a page))) (upd_same _ _ _) rfl (by
      rw [hU]
      exact fz_unrows (us := [⟨2, x.p, a, x.d⟩, ⟨1, page, a, []⟩]) rfl (if_pos rfl) (.cons (.pur (.int _ _)) (.cons (.pur (.int _ _)) (.cons (.pur (.int _ _)) (.cons (.pur (byteRows_pur _)) (.cons (.pur (.int _ _)) (.cons (.pur (.int _ _)) (.cons (.pur (.int _ _)) (.cons .nothing .nil)))))))))) ?_
    have tE := aI uU <| aI hL <| aI q1 <| aI q2 <| aI q3 <| aI q4 <| aI q5 <| aI q6 <| aI plC.eq_1 <| tfR30.down; repeat' first | (refine Red.h ?_) | ((with_reducible apply w_live (lvAt [[0, 1], [0, 1], [0, 1, 5, 6], [0, 1, 5], [0, 1, 5], [0, 5], [0, 1], [0, 1, 7, 8, 9], [9], [0, 1, 7, 8], [0, 1, 7, 8, 10], [0, 1, 7, 8], [0, 1, 7, 8, 10], [0, 1, 7, 8, 11], [11], [0, 1, 7, 8]])); (focus (simp only [lvAt_zero, lvAt_succ]; rfl)); exact zLv) | ((with_reducible first | apply wz tkR3 | apply wr_z tkR3); exact zZ; decide) | ((with_reducible first | apply wp | apply wr_p); (focus (first | ((with_reducible first | apply p_inil tkR3 | apply p_innil tkR3); exact zT; exact zU; exact zV; exact zU))); decide) | ((with_reducible first | apply wacall'); exact zV; exact zVs; exact zAs; (focus (first | exact ⟨_, Tryz.func60, rfl, rfl⟩ | exact ⟨_, Tryz.func93, rfl, rfl⟩)); (focus (with_unfolding_all first | exact h93 _ _ zLk | exact h60 _ _ (upd_same _ _ _))); decide) | ((with_reducible first | apply m_calle); exact zU; exact zV; exact zVs; exact zAs; (focus (first | exact ⟨_, Tryz.func60, rfl, rfl⟩ | exact ⟨_, Tryz.func93, rfl, rfl⟩)); (focus (with_unfolding_all first | exact h93 _ _ zLk | exact h60 _ _ (upd_same _ _ _))); decide) | ((with_reducible first | apply w_iff'); exact zV; exact zU) | ((with_reducible first | apply fm_nil | apply fm_cons)) | ((with_reducible apply m_next); exact zU) | ((with_reducible apply m_nil0); exact zU) | ((with_reducible first | apply m_v tkR3); exact zU; exact zZ; decide) | ((with_reducible first | apply m_x tkR3); exact zU; (focus (decide +kernel)); exact zZ; decide) | ((with_reducible first | apply m_call); exact zU; exact zV; exact zVs; exact zAs; (focus (with_unfolding_all first | exact h102)); decide) | ((with_reducible apply w_drawN (id := 15) [15] [([15], [0, 1, 2, 3, 4, 5, 6, 7, 8, 9, 10, 11, 12, 13, 14, 15, 16])] mixed); (focus (decide +kernel))) | ((with_reducible apply w_ret); (repeat refine Red.h ?_); (with_reducible first | apply donef_ret tkR3 | apply doneA_ret tkR3); exact zT; exact zD) | fail
    all_goals try clear tE
    refine ⟨_, rfl, .pur .nilIface, upd_same _ _ _, fun id hid hne => ?_⟩
    dsimp only
    repeat rw [upd_ne _ _ (by omega)]
end Go.Proofs.YtlmighkbeacjnaaGreatDoor


open Go Go.Lg
set_option linter.unusedSimpArgs false
set_option linter.unusedVariables false
set_option maxHeartbeats 4000000
set_option maxRecDepth 20000
namespace Go.Proofs.YtlmighkbeacjnaaGreatDoor
theorem tkR4 : TOK Tryz.prog (tyOf Tryz.prog) := tok Tryz.prog
theorem po_pur (p : Po) : Pur (.agg p.cells) := .agg fun y hy => by
  simp only [Po.cells, List.mem_cons, List.not_mem_nil, or_false] at hy
  rcases hy with rfl | rfl | rfl | rfl | rfl | rfl | rfl <;> first | exact .int _ _ | exact .bool _ | exact frRows_pur _ | exact unRows_pur _ | exact byteRows_pur _
theorem ac38_nil {H : Heap} {n id : Nat} : AC Tryz.prog 38 [.nilIface, .iface 84 (.ptr id 0)] H n (fun r H' n' => r = .ret (.bool false) ∧ H' = H ∧ n' = n) := by
  refine ac_of_w Tryz.func38 (c := _) rfl (Nat.le_of_ble_eq_true rfl) ?_
  rw [show Tryz.f38.ntmps = 42 from rfl]
  have tE := aI uU <| aI ty4 <| aI ty9 <| aI ty17 <| aI ty20 <| aI ty81 <| aI ty108 <| aI ty109 <| aI ty111 <| aI ty114 <| aI ty116 <| Tryz.results38; repeat' first | (refine Red.h ?_) | ((with_reducible first | apply wz tkR4 | apply wr_z tkR4); exact zZ; decide) | ((with_reducible first | apply wp | apply wr_p); (focus (first | ((with_reducible first | apply p_inil tkR4 | apply p_innil tkR4); exact zT; exact zU; exact zV; exact zU))); decide) | ((with_reducible first | apply w_ift'); exact zV; exact zU) | ((with_reducible apply w_ret); (repeat refine Red.h ?_); (with_reducible first | apply donef_ret tkR4 | apply doneA_ret tkR4); exact zT; exact zD) | fail
  all_goals try clear tE
  exact ⟨rfl, rfl, rfl⟩
theorem pf13 (p : Po) (hl : p.f.l.length ≤ 1000000) (hd : ∀ x, x ∈ p.f.l → x.d.length ≤ 1000000 ∧ x.pins.length ≤ 1000000) (hq : p.q.length ≤ 1000000) (hdq : ∀ u, u ∈ p.q → u.d.length ≤ 1000000) (hpd : p.d.length ≤ 1000000) : PF Tryz.prog 13 [.agg p.cells] (fun r => r = .agg p.cells) := by
  have h40 := (nf40 p.f hl hd).pf
  have h41 := pf41 p.q hq hdq
  have h42 := pf42 p.d hpd
  refine pf_of_wf0 Tryz.func13 (c := _) rfl rfl (Nat.le_of_ble_eq_true rfl) (args_1 (po_pur p)) ?_
  rw [show Tryz.f13.ntmps = 16 from rfl]
  simp only [Fs.cells] at h40
  have hv1 := frRows_pur p.f.l
  have hv2 := unRows_pur p.q
  have hv3 := byteRows_pur p.d
  have tE := aI uU <| aI Po.cells.eq_1 <| aI Nat.zero_add <| aI ty3 <| aI ty4 <| aI ty5 <| aI ty24 <| aI ty26 <| aI ty27 <| aI ty28 <| aI ty34 <| aI ty36 <| aI ty58 <| aI ty72 <| aI ty74 <| Tryz.results13; repeat' first | (refine Red.h ?_) | ((with_reducible apply l_box (d := 1)); exact zV; exact zU; decide) | ((with_reducible apply w_live (lvAt [[0], [1, 2], [1, 2]])); (focus (simp only [lvAt_zero, lvAt_succ]; rfl)); exact zLv) | ((with_reducible first | apply wz tkR4 | apply wr_z tkR4); exact zZ; decide) | ((with_reducible first | apply w_alloc tkR4); exact zT; decide) | ((with_reducible first | apply w_store tkR4); exact zV; exact zV; exact zS) | ((with_reducible first | apply fm_nil | apply fm_cons)) | ((with_reducible apply m_next); exact zU) | ((with_reducible apply m_nil0); exact zU) | ((with_reducible first | apply m_v tkR4); exact zU; exact zZ; decide) | ((with_reducible first | apply m_x tkR4); exact zU; (focus (decide +kernel)); exact zZ; decide) | ((with_reducible first | apply m_chg0); exact zU; (focus ((with_reducible apply c_store tkR4); exact zV; exact zV; exact zS))) | ((with_reducible first | apply m_call); exact zU; exact zV; exact zVs; exact zAs; (focus (with_unfolding_all first | exact h40 | exact h41 | exact h42)); decide) | ((with_reducible apply w_drawN (id := 1) [10, 12, 14] [([10, 12, 14], [0, 1, 2, 3, 4, 6, 7, 9, 5, 8, 10, 11, 12, 13, 14])] mixed); (focus (decide +kernel))) | ((with_reducible apply w_ret); (repeat refine Red.h ?_); (with_reducible first | apply donef_ret tkR4 | apply doneA_ret tkR4); exact zT; exact zD) | fail
  all_goals try clear tE
  · exact .pur (po_pur p)
  · exact po_pur p
  · rfl
/-- What a call tells, and turns. -/
def hitR (c : Cf) (cl : Int) (p : Po) (page : Int) (a : Nat) (x : Fr) : Po × Int :=
  ({ p with w := (if x.k = 1 then ahI c p.q page else p.w), f := (if turnE c p.f (a : Int) (fun u => pinE c u cl) = 0 then turnF c p.f (a : Int) (fun u => pinE c u cl) (fun u => pinV u cl) else p.f) }, turnE c p.f (a : Int) (fun u => pinE c u cl))
def takeR (c : Cf) (cl : Int) (p : Po) (page : Int) : Po × Int :=
  if vicE c p.f = 0 then (match (vicF c p.f).l[(vicA c p.f).toNat]? with
    | some x => if putE c p.q (fetU x (vicA c p.f) page) = 0 then ({ p with f := ⟨(vicF c p.f).l.set (vicA c p.f).toNat (loadV c page cl x), (vicF c p.f).h⟩, q := putU c p.q (fetU x (vicA c p.f) page), w := (putU c p.q (fetU x (vicA c p.f) page)).length }, 0) else (p, putE c p.q (fetU x (vicA c p.f) page))
    | none => (p, 8)) else (p, vicE c p.f)
def sealR (p : Po) : Po × Int := if (p.f.l.any pinned) = true then (p, 260) else if p.q.length > 0 ∨ (dirtyL p.f.l 0).length > 0 then (p, 230) else ({ p with s := true }, 0)
def turnR (p : Po) (F : Fs) (e : Int) : Po × Int := if e = 0 then ({ p with f := F }, 0) else (p, e)
def callR (c : Cf) (cl : Int) (p : Po) (x : Ca) : Po × Int :=
  if x.k = 5 then flushR c p else if x.k = 6 then sealR p else if x.p < 0 ∨ x.p ≥ c.p then (p, 261) else
  if fidx (isAt x.p) p.f.l 0 < 0 then (if x.k = 1 then takeR c cl p x.p else (p, 260)) else
  match p.f.l[(fidx (isAt x.p) p.f.l 0).toNat]? with
  | some u =>
      if x.k = 1 then hitR c cl p x.p (fidx (isAt x.p) p.f.l 0).toNat u else
      if u.k ≠ 2 ∨ pinN u cl = 0 then (p, 260) else
      if x.k = 2 then ({ p with d := u.d }, 0) else
      if x.k = 3 then turnR p (turnF c p.f (fidx (isAt x.p) p.f.l 0) (writeE c x.d) (writeV x.d)) (turnE c p.f (fidx (isAt x.p) p.f.l 0) (writeE c x.d)) else
      turnR p (turnF c p.f (fidx (isAt x.p) p.f.l 0) (fun u => unpinE c u cl) (fun u => unpinV u cl)) (turnE c p.f (fidx (isAt x.p) p.f.l 0) (fun u => unpinE c u cl))
  | none => (p, 8)
/-- What pool.Do answers. -/
def p0 (f : Fs) (q : List Un) (e : Int) : Po := ⟨f, q, e, [], 0, false⟩
def askE (c : Cf) (x : Ca) : Int := if c.good = true then (if 1 ≤ x.k ∧ x.k ≤ 6 ∧ (x.d.length : Int) = (if x.k = 3 then c.z else 0) then 0 else 2) else 8
noncomputable def doE (c : Cf) (f : Fs) (q : List Un) (cl : Int) (x : Ca) : Int := if eT c f q = 0 then (if askE c x = 0 ∧ 0 ≤ cl ∧ cl < c.cl then 0 else 2) else 8
def doR (c : Cf) (f : Fs) (q : List Un) (cl : Int) (x : Ca) : Po := if (callR c cl (p0 f q 0) x).2 = 0 then (callR c cl (p0 f q 0) x).1 else p0 f q (callR c cl (p0 f q 0) x).2
noncomputable def doP (c : Cf) (f : Fs) (q : List Un) (cl : Int) (x : Ca) : Po := if doE c f q cl x = 0 then doR c f q cl x else p0 ⟨[], 0⟩ [] 0
end Go.Proofs.YtlmighkbeacjnaaGreatDoor


open Go Go.Lg
set_option linter.unusedSimpArgs false
set_option linter.unusedVariables false
set_option linter.unusedSectionVars false
set_option maxHeartbeats 4000000
set_option maxRecDepth 20000
namespace Go.Proofs.YtlmighkbeacjnaaGreatDoor
theorem tkR5 : TOK Tryz.prog (tyOf Tryz.prog) := tok Tryz.prog
def tfR50 := PLift.up (aI ty3 <| aI ty4 <| aI ty5 <| aI ty23 <| aI ty24 <| aI ty26 <| aI ty27 <| aI ty28 <| aI ty30 <| aI ty34 <| aI ty36 <| aI ty58 <| aI ty72 <| aI ty74 <| aI ty79 <| Tryz.results37)
/-- What stays in sight of one under way. -/
structure PlOk (c : Cf) (cl : Int) (p : Po) : Prop where
  ok : okF c p.f = true
  l : p.f.l.length ≤ 1000
  d : ∀ x, x ∈ p.f.l → x.d.length ≤ 1000000 ∧ x.pins.length ≤ 1000000
  q : p.q.length ≤ 1000
  dq : ∀ u, u ∈ p.q → u.d.length ≤ 1000000
  cl0 : 0 ≤ cl ∧ cl < c.cl
theorem ac56R (c : Cf) (cl : Int) (p : Po) (H : Heap) (n L : Nat) (hL : H L = some (.cells (plC c cl p) 79)) (hLn : L < n) (hp : PlOk c cl p) :
    AC Tryz.prog 56 [.ptr L 0] H n (fun r H' n' => r = .ret (errV (flushR c p).2) ∧ H' = upd H L (some (.cells (plC c cl (flushR c p).1) 79)) ∧ n' = n) := by
  by_cases he : putE c p.q (backL p.f.l 0) = 0
  · rw [flushR, if_pos he]
    exact ac56_ok c cl p H n L hL hLn hp.ok hp.l hp.d hp.q hp.dq he
  · rw [flushR, if_neg he]
    simp only [errV, if_neg he]
    refine (ac56_bad c cl p H n L hL hLn hp.ok hp.l hp.d hp.q hp.dq he).mono ?_
    rintro r H' n' ⟨rfl, rfl, rfl⟩
    exact ⟨rfl, (upd_self hL).symm, rfl⟩
theorem ac57R (c : Cf) (cl : Int) (p : Po) (H : Heap) (n L : Nat) (hL : H L = some (.cells (plC c cl p) 79)) (hLn : L < n) (hp : PlOk c cl p) :
    AC Tryz.prog 57 [.ptr L 0] H n (fun r H' n' => r = .ret (errV (sealR p).2) ∧ H' = upd H L (some (.cells (plC c cl (sealR p).1) 79)) ∧ n' = n) := by
  refine (ac57 c cl p H n L hL hp.ok (Nat.le_trans hp.l (by decide)) (fun x hx => (hp.d x hx).2) (by have := hp.cl0; omega)).mono ?_
  rintro r H' n' ⟨rfl, rfl, rfl⟩
  unfold sealR
  split
  · exact ⟨rfl, (upd_self hL).symm, rfl⟩
  · split
    · exact ⟨rfl, (upd_self hL).symm, rfl⟩
    · exact ⟨rfl, rfl, rfl⟩
theorem ac58R (c : Cf) (cl : Int) (p : Po) (page : Int) (H : Heap) (n L : Nat) (hL : H L = some (.cells (plC c cl p) 79)) (hLn : L < n) (hp : PlOk c cl p) (h0 : 0 ≤ page ∧ page < c.p) (hno : fidx (isAt page) p.f.l 0 < 0) :
    AC Tryz.prog 58 [.ptr L 0, .int .i64 page] H n (fun r H' n' => r = .ret (errV (takeR c cl p page).2) ∧ H' = upd H L (some (.cells (plC c cl (takeR c cl p page).1) 79)) ∧ n' = n) := by
  have hl : p.f.l.length ≤ 1000000 := Nat.le_trans hp.l (by decide)
  by_cases he : vicE c p.f = 0
  · obtain ⟨a, x, hV⟩ := vic_parts hp.ok he
    have hget := hV.get
    unfold takeR
    rw [if_pos he, hV.at_, Int.toNat_natCast, hget]
    simp only
    by_cases hpE : putE c p.q (fetU x a page) = 0
    · rw [if_pos hpE]
      exact ac58_ok c cl p page a x H n L hL hLn hp.ok hl hp.d hp.q hp.dq hno he hV h0 hp.cl0 hpE
    · rw [if_neg hpE]
      simp only [errV, if_neg hpE]
      refine (ac58_full c cl p page a x H n L hL hLn hp.ok hl hp.d hp.q hp.dq hno he hV hpE).mono ?_
      rintro r H' n' ⟨rfl, rfl, rfl⟩
      exact ⟨rfl, (upd_self hL).symm, rfl⟩
  · unfold takeR
    rw [if_neg he]
    simp only [errV, if_neg he]
    refine (ac58_none c cl p page H n L hL hLn hp.ok hl hp.d hno he).mono ?_
    rintro r H' n' ⟨rfl, rfl, rfl⟩
    exact ⟨rfl, (upd_self hL).symm, rfl⟩
theorem ac60R (c : Cf) (cl : Int) (p : Po) (g : Fs) (e : Int) (H : Heap) (n L : Nat) (hL : H L = some (.cells (plC c cl p) 79)) :
    AC Tryz.prog 60 [.ptr L 0, .agg g.cells, .int .i64 e] H n (fun r H' n' => r = .ret (errV (turnR p g e).2) ∧ H' = upd H L (some (.cells (plC c cl (turnR p g e).1) 79)) ∧ n' = n) := by
  refine (ac60 c cl p g e H n L hL).mono ?_
  rintro r H' n' ⟨rfl, rfl, rfl⟩
  unfold turnR
  by_cases he : e = 0
  · rw [if_pos he, if_pos he]; subst he; exact ⟨rfl, rfl, rfl⟩
  · rw [if_neg he, if_neg he]; exact ⟨rfl, (upd_self hL).symm, rfl⟩
section
variable (c : Cf) (cl : Int) (p : Po) (x : Ca) (H : Heap) (n L : Nat) (hL : H L = some (.cells (plC c cl p) 79)) (hLn : L < n) (hp : PlOk c cl p)
include hL hLn hp
theorem ac37_flush (hk : x.k = 5) : AC Tryz.prog 37 [.ptr L 0, .agg x.cells] H n (fun r H' n' => r = .ret (errV (flushR c p).2) ∧ H' = upd H L (some (.cells (plC c cl (flushR c p).1) 79)) ∧ n' = n) := by
  have h56 := ac56R c cl p H n L hL hLn hp
  generalize (flushR c p).2 = e at h56 ⊢
  generalize (flushR c p).1 = p1 at h56 ⊢
  refine ac_of_w Tryz.func37 (c := _) rfl (Nat.le_of_ble_eq_true rfl) ?_
  rw [show Tryz.f37.ntmps = 149 from rfl]
  have hxv : Pur (.vptr x.cells) := .vptr (ca_pur x)
  have g5 : (x.k == 5) = true := by simp [hk]
  have tE := aI uU <| aI Ca.cells.eq_1 <| aI g5 <| tfR50.down; repeat' first | (refine Red.h ?_) | ((with_reducible first | apply wz tkR5 | apply wr_z tkR5); exact zZ; decide) | ((with_reducible first | apply wacall'); exact zV; exact zVs; exact zAs; (focus (first | exact ⟨_, Tryz.func56, rfl, rfl⟩)); (focus (with_unfolding_all first | exact h56)); decide) | ((with_reducible first | apply w_ift'); exact zV; exact zU) | ((with_reducible apply w_ret); (repeat refine Red.h ?_); (with_reducible first | apply donef_ret tkR5 | apply doneA_ret tkR5); exact zT; exact zD) | fail
  all_goals try clear tE
  exact ⟨rfl, rfl, rfl⟩
theorem ac37_seal (hk : x.k = 6) : AC Tryz.prog 37 [.ptr L 0, .agg x.cells] H n (fun r H' n' => r = .ret (errV (sealR p).2) ∧ H' = upd H L (some (.cells (plC c cl (sealR p).1) 79)) ∧ n' = n) := by
  have h57 := ac57R c cl p H n L hL hLn hp
  generalize (sealR p).2 = e at h57 ⊢
  generalize (sealR p).1 = p1 at h57 ⊢
  refine ac_of_w Tryz.func37 (c := _) rfl (Nat.le_of_ble_eq_true rfl) ?_
  rw [show Tryz.f37.ntmps = 149 from rfl]
  have hxv : Pur (.vptr x.cells) := .vptr (ca_pur x)
  have g5 : (x.k == 5) = false := by simp [hk]
  have g6 : (x.k == 6) = true := by simp [hk]
  have tE := aI uU <| aI Ca.cells.eq_1 <| aI g5 <| aI g6 <| tfR50.down; repeat' first | (refine Red.h ?_) | ((with_reducible first | apply wz tkR5 | apply wr_z tkR5); exact zZ; decide) | ((with_reducible first | apply wacall'); exact zV; exact zVs; exact zAs; (focus (first | exact ⟨_, Tryz.func57, rfl, rfl⟩)); (focus (with_unfolding_all first | exact h57)); decide) | ((with_reducible first | apply w_ift'); exact zV; exact zU) | ((with_reducible first | apply w_iff'); exact zV; exact zU) | ((with_reducible apply w_ret); (repeat refine Red.h ?_); (with_reducible first | apply donef_ret tkR5 | apply doneA_ret tkR5); exact zT; exact zD) | fail
  all_goals try clear tE
  exact ⟨rfl, rfl, rfl⟩
theorem ac37_page (h5 : x.k ≠ 5) (h6 : x.k ≠ 6) (hpg : x.p < 0 ∨ x.p ≥ c.p) : AC Tryz.prog 37 [.ptr L 0, .agg x.cells] H n (fun r H' n' => r = .ret (errV 261) ∧ H' = upd H L (some (.cells (plC c cl p) 79)) ∧ n' = n) := by
  refine ac_of_w Tryz.func37 (c := _) rfl (Nat.le_of_ble_eq_true rfl) ?_
  rw [show Tryz.f37.ntmps = 149 from rfl]
  have hxv : Pur (.vptr x.cells) := .vptr (ca_pur x)
  have g5 : (x.k == 5) = false := by simp [h5]
  have g6 : (x.k == 6) = false := by simp [h6]
  have hL0 := hL
  simp only [plC] at hL
  by_cases h0 : x.p < 0
  · have g0 : (x.p < 0) = True := eq_true h0
    have tE := aI uU <| aI Ca.cells.eq_1 <| aI g5 <| aI g6 <| aI g0 <| aI hL <| tfR50.down; repeat' first | (refine Red.h ?_) | ((with_reducible apply w_live (lvAt [[0, 1], [0, 3], [0], [0, 3], [0], [0, 3], [], [0, 3], [0, 3], [0, 3], [0, 3, 5, 6], [], [0, 3, 5], [0, 3, 5, 93], [0, 5], [], [0, 3, 5, 93], [0, 3, 5], [0, 5]])); (focus (simp only [lvAt_zero, lvAt_succ]; rfl)); exact zLv) | ((with_reducible first | apply wz tkR5 | apply wr_z tkR5); exact zZ; decide) | ((with_reducible first | apply wskip' | apply wr_skip); exact zU; exact zL; exact zU; decide) | ((with_reducible first | apply w_ift'); exact zV; exact zU) | ((with_reducible first | apply w_iff'); exact zV; exact zU) | ((with_reducible first | apply w_draw0 mixed); (focus (decide +kernel))) | ((with_reducible apply w_ret); (repeat refine Red.h ?_); (with_reducible first | apply donef_ret tkR5 | apply doneA_ret tkR5); exact zT; exact zD) | fail
    all_goals try clear tE
    exact ⟨rfl, (upd_self hL0).symm, rfl⟩
  · have g0 : (x.p < 0) = False := eq_false h0
    have g1 : (x.p ≥ c.p) = True := eq_true (by omega)
    have tE := aI uU <| aI Ca.cells.eq_1 <| aI g5 <| aI g6 <| aI g0 <| aI g1 <| aI hL <| aI Nat.add_zero <| tfR50.down; repeat' first | (refine Red.h ?_) | ((with_reducible apply w_live (lvAt [[0, 1], [0, 3], [0], [0, 3], [0], [0, 3], [], [0, 3], [0, 3], [0, 3], [0, 3, 5, 6], [], [0, 3, 5], [0, 3, 5, 93], [0, 5], [], [0, 3, 5, 93], [0, 3, 5], [0, 5]])); (focus (simp only [lvAt_zero, lvAt_succ]; rfl)); exact zLv) | ((with_reducible first | apply wz tkR5 | apply wr_z tkR5); exact zZ; decide) | ((with_reducible first | apply wzg tkR5 | apply wr_zg tkR5); exact zU; exact zL; exact zU; exact zZ; decide) | ((with_reducible first | apply w_ift'); exact zV; exact zU) | ((with_reducible first | apply w_iff'); exact zV; exact zU) | ((with_reducible first | apply w_draw0 mixed); (focus (decide +kernel))) | ((with_reducible apply w_ret); (repeat refine Red.h ?_); (with_reducible first | apply donef_ret tkR5 | apply doneA_ret tkR5); exact zT; exact zD) | fail
    all_goals try clear tE
    exact ⟨rfl, (upd_self hL0).symm, rfl⟩
end
end Go.Proofs.YtlmighkbeacjnaaGreatDoor


open Go Go.Lg
set_option linter.unusedSimpArgs false
set_option linter.unusedVariables false
set_option linter.unusedSectionVars false
set_option maxHeartbeats 4000000
set_option maxRecDepth 20000
namespace Go.Proofs.YtlmighkbeacjnaaGreatDoor
theorem tkR6 : TOK Tryz.prog (tyOf Tryz.prog) := tok Tryz.prog
def tfR60 := PLift.up (aI ty3 <| aI ty4 <| aI ty5 <| aI ty23 <| aI ty24 <| aI ty26 <| aI ty27 <| aI ty28 <| aI ty30 <| aI ty34 <| aI ty36 <| aI ty58 <| aI ty72 <| aI ty74 <| aI ty79 <| Tryz.results37)
section
variable (c : Cf) (cl : Int) (p : Po) (x : Ca) (H : Heap) (n L : Nat) (hL : H L = some (.cells (plC c cl p) 79)) (hLn : L < n) (hp : PlOk c cl p) (h5 : x.k ≠ 5) (h6 : x.k ≠ 6) (hpg : ¬ (x.p < 0 ∨ x.p ≥ c.p))
include hL hLn hp h5 h6 hpg
theorem ac37_take (hk : x.k = 1) (hno : fidx (isAt x.p) p.f.l 0 < 0) : AC Tryz.prog 37 [.ptr L 0, .agg x.cells] H n (fun r H' n' => r = .ret (errV (takeR c cl p x.p).2) ∧ H' = upd H L (some (.cells (plC c cl (takeR c cl p x.p).1) 79)) ∧ n' = n) := by
  have h58 := ac58R c cl p x.p H n L hL hLn hp (by omega) hno
  generalize (takeR c cl p x.p).2 = e at h58 ⊢
  generalize (takeR c cl p x.p).1 = p1 at h58 ⊢
  refine ac_of_w Tryz.func37 (c := _) rfl (Nat.le_of_ble_eq_true rfl) ?_
  rw [show Tryz.f37.ntmps = 149 from rfl]
  have hxv : Pur (.vptr x.cells) := .vptr (ca_pur x)
  have g5 : (x.k == 5) = false := by simp [h5]
  have g6 : (x.k == 6) = false := by simp [h6]
  have g1 : (x.k == 1) = true := by simp [hk]
  have g0 : (x.p < 0) = False := eq_false (by omega)
  have g2 : (x.p ≥ c.p) = False := eq_false (by omega)
  simp only [plC] at hL
  have tE := aI uU <| aI Ca.cells.eq_1 <| aI g5 <| aI g6 <| aI g0 <| aI g1 <| aI g2 <| aI hL <| aI Nat.add_zero <| tfR60.down; repeat' first | (refine Red.h ?_) | ((with_reducible apply w_live (lvAt [[0, 1], [0, 3], [0], [0, 3], [0], [0, 3], [], [0, 3], [0, 3], [0, 3], [0, 3, 5, 6], [], [0, 3, 5], [0, 3, 5, 93], [0, 5], [], [0, 3, 5, 93], [0, 3, 5], [0, 5]])); (focus (simp only [lvAt_zero, lvAt_succ]; rfl)); exact zLv) | ((with_reducible first | apply wz tkR6 | apply wr_z tkR6); exact zZ; decide) | ((with_reducible first | apply wzg tkR6 | apply wr_zg tkR6); exact zU; exact zL; exact zU; exact zZ; decide) | ((with_reducible first | apply wacall'); exact zV; exact zVs; exact zAs; (focus (first | exact ⟨_, Tryz.func58, rfl, rfl⟩)); (focus (with_unfolding_all first | exact h58)); decide) | ((with_reducible first | apply w_ift'); exact zV; exact zU) | ((with_reducible first | apply w_iff'); exact zV; exact zU) | ((with_reducible first | apply w_draw0 mixed); (focus (decide +kernel))) | ((with_reducible apply w_ret); (repeat refine Red.h ?_); (with_reducible first | apply donef_ret tkR6 | apply doneA_ret tkR6); exact zT; exact zD) | fail
  all_goals try clear tE
  exact ⟨rfl, rfl, rfl⟩
theorem ac37_hit (hk : x.k = 1) (a : Nat) (u : Fr) (hf : fidx (isAt x.p) p.f.l 0 = a) (hu : p.f.l[a]? = some u) : AC Tryz.prog 37 [.ptr L 0, .agg x.cells] H n (fun r H' n' => r = .ret (errV (hitR c cl p x.p a u).2) ∧ H' = upd H L (some (.cells (plC c cl (hitR c cl p x.p a u).1) 79)) ∧ n' = n) := by
  have h58 : AC Tryz.prog 58 [.ptr L 0, .int .i64 x.p] H n (fun r H' n' => r = .ret (errV (hitR c cl p x.p a u).2) ∧ H' = upd H L (some (.cells (plC c cl (hitR c cl p x.p a u).1) 79)) ∧ n' = n) := ac58_hit c cl p x.p a u H n L hL hLn hp.ok (Nat.le_trans hp.l (by decide)) hp.d (Nat.le_trans hp.q (by decide)) hf hu
  generalize (hitR c cl p x.p a u).2 = e at h58 ⊢
  generalize (hitR c cl p x.p a u).1 = p1 at h58 ⊢
  refine ac_of_w Tryz.func37 (c := _) rfl (Nat.le_of_ble_eq_true rfl) ?_
  rw [show Tryz.f37.ntmps = 149 from rfl]
  have hxv : Pur (.vptr x.cells) := .vptr (ca_pur x)
  have g5 : (x.k == 5) = false := by simp [h5]
  have g6 : (x.k == 6) = false := by simp [h6]
  have g1 : (x.k == 1) = true := by simp [hk]
  have g0 : (x.p < 0) = False := eq_false (by omega)
  have g2 : (x.p ≥ c.p) = False := eq_false (by omega)
  simp only [plC] at hL
  have tE := aI uU <| aI Ca.cells.eq_1 <| aI g5 <| aI g6 <| aI g0 <| aI g1 <| aI g2 <| aI hL <| aI Nat.add_zero <| tfR60.down; repeat' first | (refine Red.h ?_) | ((with_reducible apply w_live (lvAt [[0, 1], [0, 3], [0], [0, 3], [0], [0, 3], [], [0, 3], [0, 3], [0, 3], [0, 3, 5, 6], [], [0, 3, 5], [0, 3, 5, 93], [0, 5], [], [0, 3, 5, 93], [0, 3, 5], [0, 5]])); (focus (simp only [lvAt_zero, lvAt_succ]; rfl)); exact zLv) | ((with_reducible first | apply wz tkR6 | apply wr_z tkR6); exact zZ; decide) | ((with_reducible first | apply wzg tkR6 | apply wr_zg tkR6); exact zU; exact zL; exact zU; exact zZ; decide) | ((with_reducible first | apply wacall'); exact zV; exact zVs; exact zAs; (focus (first | exact ⟨_, Tryz.func58, rfl, rfl⟩)); (focus (with_unfolding_all first | exact h58)); decide) | ((with_reducible first | apply w_ift'); exact zV; exact zU) | ((with_reducible first | apply w_iff'); exact zV; exact zU) | ((with_reducible first | apply w_draw0 mixed); (focus (decide +kernel))) | ((with_reducible apply w_ret); (repeat refine Red.h ?_); (with_reducible first | apply donef_ret tkR6 | apply doneA_ret tkR6); exact zT; exact zD) | fail
  all_goals try clear tE
  exact ⟨rfl, rfl, rfl⟩
theorem ac37_none (h1 : x.k ≠ 1) (hno : fidx (isAt x.p) p.f.l 0 < 0) : AC Tryz.prog 37 [.ptr L 0, .agg x.cells] H n (fun r H' n' => r = .ret (errV 260) ∧ H' = upd H L (some (.cells (plC c cl p) 79)) ∧ n' = n) := by
  have h59 := find_not (page := x.p) (Nat.le_trans hp.l (by decide)) hp.d hp.ok hno
  refine ac_of_w Tryz.func37 (c := _) rfl (Nat.le_of_ble_eq_true rfl) ?_
  rw [show Tryz.f37.ntmps = 149 from rfl]
  have hxv : Pur (.vptr x.cells) := .vptr (ca_pur x)
  have g5 : (x.k == 5) = false := by simp [h5]
  have g6 : (x.k == 6) = false := by simp [h6]
  have g1 : (x.k == 1) = false := by simp [h1]
  have g0 : (x.p < 0) = False := eq_false (by omega)
  have g2 : (x.p ≥ c.p) = False := eq_false (by omega)
  have hL0 := hL
  simp only [plC] at hL
  simp only [Cf.cells, Fs.cells] at h59
  have tE := aI uU <| aI Ca.cells.eq_1 <| aI g5 <| aI g6 <| aI g0 <| aI g1 <| aI g2 <| aI hL <| aI Nat.add_zero <| tfR60.down; repeat' first | (refine Red.h ?_) | ((with_reducible apply w_live (lvAt [[0, 1], [0, 3], [0], [0, 3], [0], [0, 3], [], [0, 3], [0, 3], [0, 3], [0, 3, 5, 6], [], [0, 3, 5], [0, 3, 5, 93], [0, 5], [], [0, 3, 5, 93], [0, 3, 5], [0, 5]])); (focus (simp only [lvAt_zero, lvAt_succ]; rfl)); exact zLv) | ((with_reducible first | apply wz tkR6 | apply wr_z tkR6); exact zZ; decide) | ((with_reducible first | apply wzg tkR6 | apply wr_zg tkR6); exact zU; exact zL; exact zU; exact zZ; decide) | ((with_reducible first | apply wskip' | apply wr_skip); exact zU; exact zL; exact zU; decide) | ((with_reducible first | apply wcall' | apply wr_call); exact zV; exact zVs; exact zAs; (focus (with_unfolding_all first | exact h59)); decide) | ((with_reducible first | apply w_ift'); exact zV; exact zU) | ((with_reducible first | apply w_iff'); exact zV; exact zU) | ((with_reducible first | apply w_draw0 mixed); (focus (decide +kernel))) | ((with_reducible apply w_ret); (repeat refine Red.h ?_); (with_reducible first | apply donef_ret tkR6 | apply doneA_ret tkR6); exact zT; exact zD) | fail
  all_goals try clear tE
  exact ⟨rfl, (upd_self hL0).symm, rfl⟩
theorem find_yes (a : Nat) (hf : fidx (isAt x.p) p.f.l 0 = a) : PF Tryz.prog 59 [.agg c.cells, .agg p.f.cells, .int .i64 x.p] (fun r => r = .tuple [.int .i64 (a : Int), .bool true]) := by
  have h59 := pf59 c p.f x.p (Nat.le_trans hp.l (by decide)) (fun x hx => (hp.d x hx).2)
  rw [find_is hp.ok, findI, find_is hp.ok, hf] at h59
  have hg : decide (0 ≤ (a : Int)) = true := by simp
  rw [hg, if_pos rfl] at h59
  exact h59
theorem ac37_pin (h1 : x.k ≠ 1) (a : Nat) (u : Fr) (hf : fidx (isAt x.p) p.f.l 0 = a) (hu : p.f.l[a]? = some u) (hb : u.k ≠ 2 ∨ pinN u cl = 0) : AC Tryz.prog 37 [.ptr L 0, .agg x.cells] H n (fun r H' n' => r = .ret (errV 260) ∧ H' = upd H L (some (.cells (plC c cl p) 79)) ∧ n' = n) := by
  have h59 := find_yes c cl p x H n L hL hLn hp h5 h6 hpg a hf
  refine ac_of_w Tryz.func37 (c := _) rfl (Nat.le_of_ble_eq_true rfl) ?_
  rw [show Tryz.f37.ntmps = 149 from rfl]
  have hxv : Pur (.vptr x.cells) := .vptr (ca_pur x)
  have g5 : (x.k == 5) = false := by simp [h5]
  have g6 : (x.k == 6) = false := by simp [h6]
  have g1 : (x.k == 1) = false := by simp [h1]
  have g0 : (x.p < 0) = False := eq_false (by omega)
  have g2 : (x.p ≥ c.p) = False := eq_false (by omega)
  have hL0 := hL
  simp only [plC] at hL
  simp only [Cf.cells, Fs.cells] at h59
  have hr := fr_row hu
  have hal := (List.getElem?_eq_some_iff.1 hu).1
  have c0 : (0 ≤ (a : Int)) = True := by simp
  have c1 : ((a : Int) < (p.f.l.length : Int)) = True := eq_true (by omega)
  by_cases hu2 : u.k = 2
  · have g3 : (u.k != 2) = false := by simp [hu2]
    have hz : pinN u cl = 0 := by omega
    obtain ⟨k, rfl⟩ : ∃ k : Nat, cl = k := ⟨cl.toNat, by have := hp.cl0; omega⟩
    have hkl : k < u.pins.length := by have := (may_pins (okF_may hp.ok hu)).1; have := hp.cl0; omega
    have hpk : u.pins[k]? = some 0 := by
      rw [pinN, Int.toNat_natCast, List.getD_eq_getElem?_getD, List.getElem?_eq_getElem hkl] at hz
      rw [List.getElem?_eq_getElem hkl]; simpa using hz
    have hi := int_row hpk
    have d0 : (0 ≤ (k : Int)) = True := by simp
    have d1 : ((k : Int) < (u.pins.length : Int)) = True := eq_true (by omega)
    have tE := aI uU <| aI Ca.cells.eq_1 <| aI g5 <| aI g6 <| aI g0 <| aI g1 <| aI g2 <| aI g3 <| aI hL <| aI hr <| aI c0 <| aI c1 <| aI hi <| aI d0 <| aI d1 <| aI frRows_len <| aI intRows_len <| aI Fr.cells.eq_1 <| aI Nat.add_zero <| tfR60.down; repeat' first | (refine Red.h ?_) | ((with_reducible apply w_live (lvAt [[0, 1], [0, 3], [0], [0, 3], [0], [0, 3], [], [0, 3], [0, 3], [0, 3], [0, 3, 5, 6], [], [0, 3, 5], [0, 3, 5, 93], [0, 5], [], [0, 3, 5, 93], [0, 3, 5], [0, 5]])); (focus (simp only [lvAt_zero, lvAt_succ]; rfl)); exact zLv) | ((with_reducible first | apply wz tkR6 | apply wr_z tkR6); exact zZ; decide) | ((with_reducible first | apply wzg tkR6 | apply wr_zg tkR6); exact zU; exact zL; exact zU; exact zZ; decide) | ((with_reducible first | apply wcall' | apply wr_call); exact zV; exact zVs; exact zAs; (focus (with_unfolding_all first | exact h59)); decide) | ((with_reducible first | apply w_ift'); exact zV; exact zU) | ((with_reducible first | apply w_iff'); exact zV; exact zU) | ((with_reducible first | apply w_draw0 mixed); (focus (decide +kernel))) | ((with_reducible apply w_ret); (repeat refine Red.h ?_); (with_reducible first | apply donef_ret tkR6 | apply doneA_ret tkR6); exact zT; exact zD) | fail
    all_goals try clear tE
    exact ⟨rfl, (upd_self hL0).symm, rfl⟩
  · have g3 : (u.k != 2) = true := by simp [hu2]
    have tE := aI uU <| aI Ca.cells.eq_1 <| aI g5 <| aI g6 <| aI g0 <| aI g1 <| aI g2 <| aI g3 <| aI hL <| aI hr <| aI c0 <| aI c1 <| aI frRows_len <| aI Fr.cells.eq_1 <| aI Nat.add_zero <| tfR60.down; repeat' first | (refine Red.h ?_) | ((with_reducible apply w_live (lvAt [[0, 1], [0, 3], [0], [0, 3], [0], [0, 3], [], [0, 3], [0, 3], [0, 3], [0, 3, 5, 6], [], [0, 3, 5], [0, 3, 5, 93], [0, 5], [], [0, 3, 5, 93], [0, 3, 5], [0, 5]])); (focus (simp only [lvAt_zero, lvAt_succ]; rfl)); exact zLv) | ((with_reducible first | apply wz tkR6 | apply wr_z tkR6); exact zZ; decide) | ((with_reducible first | apply wzg tkR6 | apply wr_zg tkR6); exact zU; exact zL; exact zU; exact zZ; decide) | ((with_reducible first | apply wskip' | apply wr_skip); exact zU; exact zL; exact zU; decide) | ((with_reducible first | apply wcall' | apply wr_call); exact zV; exact zVs; exact zAs; (focus (with_unfolding_all first | exact h59)); decide) | ((with_reducible first | apply w_ift'); exact zV; exact zU) | ((with_reducible first | apply w_iff'); exact zV; exact zU) | ((with_reducible first | apply w_draw0 mixed); (focus (decide +kernel))) | ((with_reducible apply w_ret); (repeat refine Red.h ?_); (with_reducible first | apply donef_ret tkR6 | apply doneA_ret tkR6); exact zT; exact zD) | fail
    all_goals try clear tE
    exact ⟨rfl, (upd_self hL0).symm, rfl⟩
theorem ac37_read (hk : x.k = 2) (a : Nat) (u : Fr) (hf : fidx (isAt x.p) p.f.l 0 = a) (hu : p.f.l[a]? = some u) (hb : ¬ (u.k ≠ 2 ∨ pinN u cl = 0)) : AC Tryz.prog 37 [.ptr L 0, .agg x.cells] H n (fun r H' n' => r = .ret .nilIface ∧ H' = upd H L (some (.cells (plC c cl { p with d := u.d }) 79)) ∧ n' = n) := by
  have h59 := find_yes c cl p x H n L hL hLn hp h5 h6 hpg a hf
  have h42 := pf42 u.d (hp.d u (List.mem_of_getElem? hu)).1
  refine ac_of_w Tryz.func37 (c := _) rfl (Nat.le_of_ble_eq_true rfl) ?_
  rw [show Tryz.f37.ntmps = 149 from rfl]
  have hxv : Pur (.vptr x.cells) := .vptr (ca_pur x)
  have g5 : (x.k == 5) = false := by simp [h5]
  have g6 : (x.k == 6) = false := by simp [h6]
  have g1 : (x.k == 1) = false := by simp [hk]
  have g7 : (x.k == 2) = true := by simp [hk]
  have g0 : (x.p < 0) = False := eq_false (by omega)
  have g2 : (x.p ≥ c.p) = False := eq_false (by omega)
  have hL0 := hL
  simp only [plC] at hL
  simp only [Cf.cells, Fs.cells] at h59
  have hr := fr_row hu
  have hal := (List.getElem?_eq_some_iff.1 hu).1
  have c0 : (0 ≤ (a : Int)) = True := by simp
  have c1 : ((a : Int) < (p.f.l.length : Int)) = True := eq_true (by omega)
  have hu2 : u.k = 2 := by omega
  have g3 : (u.k != 2) = false := by simp [hu2]
  have hz : pinN u cl ≠ 0 := by omega
  obtain ⟨k, rfl⟩ : ∃ k : Nat, cl = k := ⟨cl.toNat, by have := hp.cl0; omega⟩
  have hkl : k < u.pins.length := by have := (may_pins (okF_may hp.ok hu)).1; have := hp.cl0; omega
  obtain ⟨m, hpk⟩ : ∃ m, u.pins[k]? = some m := ⟨_, List.getElem?_eq_getElem hkl⟩
  have hm : (m == 0) = false := by
    rw [pinN, Int.toNat_natCast, List.getD_eq_getElem?_getD, hpk] at hz
    simpa using hz
  have hi := int_row hpk
  have d0 : (0 ≤ (k : Int)) = True := by simp
  have d1 : ((k : Int) < (u.pins.length : Int)) = True := eq_true (by omega)
  have tE := aI uU <| aI Ca.cells.eq_1 <| aI g5 <| aI g6 <| aI g0 <| aI g1 <| aI g2 <| aI g3 <| aI g7 <| aI hm <| aI hL <| aI hr <| aI c0 <| aI c1 <| aI hi <| aI d0 <| aI d1 <| aI frRows_len <| aI intRows_len <| aI Fr.cells.eq_1 <| aI Nat.add_zero <| tfR60.down; repeat' first | (refine Red.h ?_) | ((with_reducible apply w_live (lvAt [[0, 1], [0, 3], [0], [0, 3], [0], [0, 3], [], [0, 3], [0, 3], [0, 3], [0, 3, 5, 6], [], [0, 3, 5], [0, 3, 5, 93], [0, 5], [], [0, 3, 5, 93], [0, 3, 5], [0, 5]])); (focus (simp only [lvAt_zero, lvAt_succ]; rfl)); exact zLv) | ((with_reducible first | apply wz tkR6 | apply wr_z tkR6); exact zZ; decide) | ((with_reducible first | apply wzg tkR6 | apply wr_zg tkR6); exact zU; exact zL; exact zU; exact zZ; decide) | ((with_reducible first | apply w_store tkR6); exact zV; exact zV; exact zS) | ((with_reducible first | apply wcall' | apply wr_call); exact zV; exact zVs; exact zAs; (focus (with_unfolding_all first | exact h59 | exact h42)); decide) | ((with_reducible first | apply w_ift'); exact zV; exact zU) | ((with_reducible first | apply w_iff'); exact zV; exact zU) | ((with_reducible first | apply w_draw0 mixed); (focus (decide +kernel))) | ((with_reducible apply w_ret); (repeat refine Red.h ?_); (with_reducible first | apply donef_ret tkR6 | apply doneA_ret tkR6); exact zT; exact zD) | fail
  all_goals try clear tE
  exact ⟨rfl, rfl, rfl⟩
theorem ac37_write (hk : x.k = 3) (hxd : x.d.length ≤ 1000000) (a : Nat) (u : Fr) (hf : fidx (isAt x.p) p.f.l 0 = a) (hu : p.f.l[a]? = some u) (hb : ¬ (u.k ≠ 2 ∨ pinN u cl = 0)) :
    AC Tryz.prog 37 [.ptr L 0, .agg x.cells] H n (fun r H' n' => r = .ret (errV (turnR p (turnF c p.f (a : Int) (writeE c x.d) (writeV x.d)) (turnE c p.f (a : Int) (writeE c x.d))).2) ∧ H' = upd H L (some (.cells (plC c cl (turnR p (turnF c p.f (a : Int) (writeE c x.d) (writeV x.d)) (turnE c p.f (a : Int) (writeE c x.d))).1) 79)) ∧ n' = n) := by
  have h59 := find_yes c cl p x H n L hL hLn hp h5 h6 hpg a hf
  have h61 := (nf61 c p.f (a : Int) x.d (Nat.le_trans hp.l (by decide)) hp.d hxd).pf
  generalize turnE c p.f (a : Int) (writeE c x.d) = e at h61 ⊢
  generalize turnF c p.f (a : Int) (writeE c x.d) (writeV x.d) = F1 at h61 ⊢
  have h60 := ac60R c cl p F1 e H n L hL
  generalize (turnR p F1 e).2 = e1 at h60 ⊢
  generalize (turnR p F1 e).1 = p1 at h60 ⊢
  refine ac_of_w Tryz.func37 (c := _) rfl (Nat.le_of_ble_eq_true rfl) ?_
  rw [show Tryz.f37.ntmps = 149 from rfl]
  have hxv : Pur (.vptr x.cells) := .vptr (ca_pur x)
  have g5 : (x.k == 5) = false := by simp [h5]
  have g6 : (x.k == 6) = false := by simp [h6]
  have g1 : (x.k == 1) = false := by simp [hk]
  have g7 : (x.k == 2) = false := by simp [hk]
  have g8 : (x.k == 3) = true := by simp [hk]
  have g0 : (x.p < 0) = False := eq_false (by omega)
  have g2 : (x.p ≥ c.p) = False := eq_false (by omega)
  have hL0 := hL
  simp only [plC] at hL
  simp only [Cf.cells, Fs.cells] at h59 h61 h60
  have hr := fr_row hu
  have hal := (List.getElem?_eq_some_iff.1 hu).1
  have c0 : (0 ≤ (a : Int)) = True := by simp
  have c1 : ((a : Int) < (p.f.l.length : Int)) = True := eq_true (by omega)
  have hu2 : u.k = 2 := by omega
  have g3 : (u.k != 2) = false := by simp [hu2]
  have hz : pinN u cl ≠ 0 := by omega
  obtain ⟨k, rfl⟩ : ∃ k : Nat, cl = k := ⟨cl.toNat, by have := hp.cl0; omega⟩
  have hkl : k < u.pins.length := by have := (may_pins (okF_may hp.ok hu)).1; have := hp.cl0; omega
  obtain ⟨m, hpk⟩ : ∃ m, u.pins[k]? = some m := ⟨_, List.getElem?_eq_getElem hkl⟩
  have hm : (m == 0) = false := by
    rw [pinN, Int.toNat_natCast, List.getD_eq_getElem?_getD, hpk] at hz
    simpa using hz
  have hi := int_row hpk
  have d0 : (0 ≤ (k : Int)) = True := by simp
  have d1 : ((k : Int) < (u.pins.length : Int)) = True := eq_true (by omega)
  have tE := aI uU <| aI Ca.cells.eq_1 <| aI g5 <| aI g6 <| aI g0 <| aI g1 <| aI g2 <| aI g3 <| aI g7 <| aI g8 <| aI hm <| aI hL <| aI hr <| aI c0 <| aI c1 <| aI hi <| aI d0 <| aI d1 <| aI frRows_len <| aI intRows_len <| aI Fr.cells.eq_1 <| aI Nat.add_zero <| tfR60.down; repeat' first | (refine Red.h ?_) | ((with_reducible apply w_live (lvAt [[0, 1], [0, 3], [0], [0, 3], [0], [0, 3], [], [0, 3], [0, 3], [0, 3], [0, 3, 5, 6], [], [0, 3, 5], [0, 3, 5, 93], [0, 5], [], [0, 3, 5, 93], [0, 3, 5], [0, 5]])); (focus (simp only [lvAt_zero, lvAt_succ]; rfl)); exact zLv) | ((with_reducible first | apply wz tkR6 | apply wr_z tkR6); exact zZ; decide) | ((with_reducible first | apply wzg tkR6 | apply wr_zg tkR6); exact zU; exact zL; exact zU; exact zZ; decide) | ((with_reducible first | apply wcall' | apply wr_call); exact zV; exact zVs; exact zAs; (focus (with_unfolding_all first | exact h59 | exact h61)); decide) | ((with_reducible first | apply m_calle); exact zU; exact zV; exact zVs; exact zAs; (focus (first | exact ⟨_, Tryz.func60, rfl, rfl⟩)); (focus (with_unfolding_all first | exact h60)); decide) | ((with_reducible first | apply w_ift'); exact zV; exact zU) | ((with_reducible first | apply w_iff'); exact zV; exact zU) | ((with_reducible first | apply fm_nil | apply fm_cons)) | ((with_reducible apply m_next); exact zU) | ((with_reducible apply m_nil0); exact zU) | ((with_reducible first | apply m_v tkR6); exact zU; exact zZ; decide) | ((with_reducible first | apply m_x tkR6); exact zU; (focus (decide +kernel)); exact zZ; decide) | ((with_reducible first | apply m_call); exact zU; exact zV; exact zVs; exact zAs; (focus (with_unfolding_all first | exact h59 | exact h61)); decide) | ((with_reducible apply w_drawN (id := 17) [16] [([16], [0, 1, 2, 3, 4, 5, 6, 7, 8, 9, 10, 11, 12, 13, 14, 15, 16, 17])] mixed); (focus (decide +kernel))) | ((with_reducible first | apply w_draw0 mixed); (focus (decide +kernel))) | ((with_reducible apply w_ret); (repeat refine Red.h ?_); (with_reducible first | apply donef_ret tkR6 | apply doneA_ret tkR6); exact zT; exact zD) | fail
  all_goals try clear tE
  exact ⟨rfl, rfl, rfl⟩
theorem ac37_unpin (hk1 : x.k ≠ 1) (hk2 : x.k ≠ 2) (hk3 : x.k ≠ 3) (a : Nat) (u : Fr) (hf : fidx (isAt x.p) p.f.l 0 = a) (hu : p.f.l[a]? = some u) (hb : ¬ (u.k ≠ 2 ∨ pinN u cl = 0)) :
    AC Tryz.prog 37 [.ptr L 0, .agg x.cells] H n (fun r H' n' => r = .ret (errV (turnR p (turnF c p.f (a : Int) (fun u => unpinE c u cl) (fun u => unpinV u cl)) (turnE c p.f (a : Int) (fun u => unpinE c u cl))).2) ∧ H' = upd H L (some (.cells (plC c cl (turnR p (turnF c p.f (a : Int) (fun u => unpinE c u cl) (fun u => unpinV u cl)) (turnE c p.f (a : Int) (fun u => unpinE c u cl))).1) 79)) ∧ n' = n) := by
  have h59 := find_yes c cl p x H n L hL hLn hp h5 h6 hpg a hf
  have h62 := (nf62 c p.f (a : Int) cl (Nat.le_trans hp.l (by decide)) hp.d).pf
  generalize turnE c p.f (a : Int) (fun u => unpinE c u cl) = e at h62 ⊢
  generalize turnF c p.f (a : Int) (fun u => unpinE c u cl) (fun u => unpinV u cl) = F1 at h62 ⊢
  have h60 := ac60R c cl p F1 e H n L hL
  generalize (turnR p F1 e).2 = e1 at h60 ⊢
  generalize (turnR p F1 e).1 = p1 at h60 ⊢
  refine ac_of_w Tryz.func37 (c := _) rfl (Nat.le_of_ble_eq_true rfl) ?_
  rw [show Tryz.f37.ntmps = 149 from rfl]
  have hxv : Pur (.vptr x.cells) := .vptr (ca_pur x)
  have g5 : (x.k == 5) = false := by simp [h5]
  have g6 : (x.k == 6) = false := by simp [h6]
  have g1 : (x.k == 1) = false := by simp [hk1]
  have g7 : (x.k == 2) = false := by simp [hk2]
  have g8 : (x.k == 3) = false := by simp [hk3]
  have g0 : (x.p < 0) = False := eq_false (by omega)
  have g2 : (x.p ≥ c.p) = False := eq_false (by omega)
  have hL0 := hL
  simp only [plC] at hL
  simp only [Cf.cells, Fs.cells] at h59 h62 h60
  have hr := fr_row hu
  have hal := (List.getElem?_eq_some_iff.1 hu).1
  have c0 : (0 ≤ (a : Int)) = True := by simp
  have c1 : ((a : Int) < (p.f.l.length : Int)) = True := eq_true (by omega)
  have hu2 : u.k = 2 := by omega
  have g3 : (u.k != 2) = false := by simp [hu2]
  have hz : pinN u cl ≠ 0 := by omega
  obtain ⟨k, rfl⟩ : ∃ k : Nat, cl = k := ⟨cl.toNat, by have := hp.cl0; omega⟩
  have hkl : k < u.pins.length := by have := (may_pins (okF_may hp.ok hu)).1; have := hp.cl0; omega
  obtain ⟨m, hpk⟩ : ∃ m, u.pins[k]? = some m := ⟨_, List.getElem?_eq_getElem hkl⟩
  have hm : (m == 0) = false := by
    rw [pinN, Int.toNat_natCast, List.getD_eq_getElem?_getD, hpk] at hz
    simpa using hz
  have hi := int_row hpk
  have d0 : (0 ≤ (k : Int)) = True := by simp
  have d1 : ((k : Int) < (u.pins.length : Int)) = True := eq_true (by omega)
  have tE := aI uU <| aI Ca.cells.eq_1 <| aI g5 <| aI g6 <| aI g0 <| aI g1 <| aI g2 <| aI g3 <| aI g7 <| aI g8 <| aI hm <| aI hL <| aI hr <| aI c0 <| aI c1 <| aI hi <| aI d0 <| aI d1 <| aI frRows_len <| aI intRows_len <| aI Fr.cells.eq_1 <| aI Nat.add_zero <| tfR60.down; repeat' first | (refine Red.h ?_) | ((with_reducible apply w_live (lvAt [[0, 1], [0, 3], [0], [0, 3], [0], [0, 3], [], [0, 3], [0, 3], [0, 3], [0, 3, 5, 6], [], [0, 3, 5], [0, 3, 5, 93], [0, 5], [], [0, 3, 5, 93], [0, 3, 5], [0, 5]])); (focus (simp only [lvAt_zero, lvAt_succ]; rfl)); exact zLv) | ((with_reducible first | apply wz tkR6 | apply wr_z tkR6); exact zZ; decide) | ((with_reducible first | apply wzg tkR6 | apply wr_zg tkR6); exact zU; exact zL; exact zU; exact zZ; decide) | ((with_reducible first | apply wcall' | apply wr_call); exact zV; exact zVs; exact zAs; (focus (with_unfolding_all first | exact h59 | exact h62)); decide) | ((with_reducible first | apply m_calle); exact zU; exact zV; exact zVs; exact zAs; (focus (first | exact ⟨_, Tryz.func60, rfl, rfl⟩)); (focus (with_unfolding_all first | exact h60)); decide) | ((with_reducible first | apply w_iff'); exact zV; exact zU) | ((with_reducible first | apply fm_nil | apply fm_cons)) | ((with_reducible apply m_next); exact zU) | ((with_reducible apply m_nil0); exact zU) | ((with_reducible first | apply m_v tkR6); exact zU; exact zZ; decide) | ((with_reducible first | apply m_x tkR6); exact zU; (focus (decide +kernel)); exact zZ; decide) | ((with_reducible first | apply m_call); exact zU; exact zV; exact zVs; exact zAs; (focus (with_unfolding_all first | exact h59 | exact h62)); decide) | ((with_reducible apply w_drawN (id := 18) [18] [([18], [0, 1, 2, 3, 4, 5, 6, 7, 8, 9, 10, 11, 12, 13, 14, 15, 16, 17, 18, 19])] mixed); (focus (decide +kernel))) | ((with_reducible first | apply w_draw0 mixed); (focus (decide +kernel))) | ((with_reducible apply w_ret); (repeat refine Red.h ?_); (with_reducible first | apply donef_ret tkR6 | apply doneA_ret tkR6); exact zT; exact zD) | fail
  all_goals try clear tE
  exact ⟨rfl, rfl, rfl⟩
end
end Go.Proofs.YtlmighkbeacjnaaGreatDoor


open Go Go.Lg
set_option linter.unusedSimpArgs false
set_option linter.unusedVariables false
set_option linter.unusedSectionVars false
set_option maxHeartbeats 4000000
set_option maxRecDepth 20000
namespace Go.Proofs.YtlmighkbeacjnaaGreatDoor
theorem tkR7 : TOK Tryz.prog (tyOf Tryz.prog) := tok Tryz.prog
def tfR70 := PLift.up (aI ty3 <| aI ty4 <| aI ty5 <| aI ty23 <| aI ty24 <| aI ty26 <| aI ty27 <| aI ty28 <| aI ty30 <| aI ty34 <| aI ty36 <| aI ty58 <| aI ty72 <| aI ty74 <| aI ty79 <| aI ty84 <| Tryz.results11)
theorem ac37R (c : Cf) (cl : Int) (p : Po) (x : Ca) (H : Heap) (n L : Nat) (hL : H L = some (.cells (plC c cl p) 79)) (hLn : L < n) (hp : PlOk c cl p) (hxd : x.d.length ≤ 1000000) :
    AC Tryz.prog 37 [.ptr L 0, .agg x.cells] H n (fun r H' n' => r = .ret (errV (callR c cl p x).2) ∧ H' = upd H L (some (.cells (plC c cl (callR c cl p x).1) 79)) ∧ n' = n) := by
  unfold callR
  by_cases h5 : x.k = 5
  · rw [if_pos h5]; exact ac37_flush c cl p x H n L hL hLn hp h5
  · rw [if_neg h5]
    by_cases h6 : x.k = 6
    · rw [if_pos h6]; exact ac37_seal c cl p x H n L hL hLn hp h6
    · rw [if_neg h6]
      by_cases hpg : x.p < 0 ∨ x.p ≥ c.p
      · rw [if_pos hpg]; exact ac37_page c cl p x H n L hL hLn hp h5 h6 hpg
      · rw [if_neg hpg]
        by_cases hno : fidx (isAt x.p) p.f.l 0 < 0
        · rw [if_pos hno]
          by_cases h1 : x.k = 1
          · rw [if_pos h1]; exact ac37_take c cl p x H n L hL hLn hp h5 h6 hpg h1 hno
          · rw [if_neg h1]; exact ac37_none c cl p x H n L hL hLn hp h5 h6 hpg h1 hno
        · rw [if_neg hno]
          obtain ⟨a, u, hf, hu, _⟩ := fidx_get (P := isAt x.p) (l := p.f.l) (i := 0) (by omega)
          rw [Nat.zero_add] at hf
          rw [hf, Int.toNat_natCast, hu]
          simp only
          by_cases h1 : x.k = 1
          · rw [if_pos h1]; exact ac37_hit c cl p x H n L hL hLn hp h5 h6 hpg h1 a u hf hu
          · rw [if_neg h1]
            by_cases hb : u.k ≠ 2 ∨ pinN u cl = 0
            · rw [if_pos hb]; exact ac37_pin c cl p x H n L hL hLn hp h5 h6 hpg h1 a u hf hu hb
            · rw [if_neg hb]
              by_cases h2 : x.k = 2
              · rw [if_pos h2]; exact ac37_read c cl p x H n L hL hLn hp h5 h6 hpg h2 a u hf hu hb
              · rw [if_neg h2]
                by_cases h3 : x.k = 3
                · rw [if_pos h3]; exact ac37_write c cl p x H n L hL hLn hp h5 h6 hpg h3 hxd a u hf hu hb
                · rw [if_neg h3]; exact ac37_unpin c cl p x H n L hL hLn hp h5 h6 hpg h1 h2 h3 a u hf hu hb
theorem poe_pur (p : Po) (e : Int) : Pur (.tuple [.agg p.cells, .int .i64 e]) := .tuple (args_2 (po_pur p) (.int _ _))
theorem fz_zero (H : Heap) (e : Int) : Fz H (.tuple [.agg [.empty, .int .i64 0, .empty, .int .i64 0, .empty, .int .i64 0, .bool false], .int .i64 e]) (.tuple [.agg (p0 ⟨[], 0⟩ [] 0).cells, .int .i64 e]) :=
  FzL.tuple (.cons (FzL.agg (.cons .nothing (.cons (.pur (.int _ _)) (.cons .nothing (.cons (.pur (.int _ _)) (.cons .nothing (.cons (.pur (.int _ _)) (.cons (.pur (.bool _)) .nil)))))))) (.cons (.pur (.int _ _)) .nil))
theorem pf13_0 (f : Fs) (q : List Un) (hl : f.l.length ≤ 1000000) (hd : ∀ x, x ∈ f.l → x.d.length ≤ 1000000 ∧ x.pins.length ≤ 1000000) (hq : q.length ≤ 1000000) (hdq : ∀ u, u ∈ q → u.d.length ≤ 1000000) :
    PF Tryz.prog 13 [.agg [.view (frRows f.l), .int .i64 f.h, .view (unRows q), .int .i64 0, .empty, .int .i64 0, .bool false]] (fun r => r = .agg (p0 f q 0).cells) :=
  (pf13 (p0 f q 0) hl hd hq hdq (Nat.zero_le _)).args (.cons (Sub.agg (.cons (.refl _) (.cons (.refl _) (.cons (.refl _) (.cons (.refl _) (.cons .empty (.cons (.refl _) (.cons (.refl _) .nil)))))))) .nil)
theorem ac11_bad [GO] (c : Cf) (f : Fs) (q : List Un) (cl : Int) (x : Ca) (hl : f.l.length ≤ 1000) (hd : ∀ x, x ∈ f.l → x.d.length ≤ 1000000 ∧ x.pins.length ≤ 1000000) (hq : q.length ≤ 1000) (hdq : ∀ u, u ∈ q → u.d.length ≤ 1000000) (H : Heap) (n : Nat) (he : doE c f q cl x ≠ 0) :
    AC Tryz.prog 11 [.agg c.cells, .agg f.cells, .view (unRows q), .int .i64 cl, .agg x.cells] H n (fun r H' n' => r = .ret (.tuple [.agg (p0 ⟨[], 0⟩ [] 0).cells, .int .i64 (doE c f q cl x)]) ∧ H' = H ∧ n' = n) := by
  have h15 := pf15 c f q (Nat.le_trans hl (by decide)) (fun x hx => (hd x hx).2) (Nat.le_trans hq (by decide))
  have h17 : PF Tryz.prog 17 [.agg c.cells, .agg x.cells] (fun r => r = .int .i64 (askE c x)) := pf17 c x
  refine ac_norm (poe_pur _ _) (ac_of_w Tryz.func11 (c := _) rfl (Nat.le_of_ble_eq_true rfl) ?_)
  rw [show Tryz.f11.ntmps = 65 from rfl]
  have hfv : Pur (.vptr f.cells) := .vptr (fs_pur f)
  have hcv : Pur (.vptr c.cells) := .vptr (cells_pur c)
  have hxv : Pur (.vptr x.cells) := .vptr (ca_pur x)
  have hqv := unRows_pur q
  by_cases h8 : eT c f q = 0
  · rw [h8] at h15
    have hb : ¬ (askE c x = 0 ∧ 0 ≤ cl ∧ cl < c.cl) := fun h => he (by rw [doE, if_pos h8, if_pos h])
    have hv : doE c f q cl x = 2 := by rw [doE, if_pos h8, if_neg hb]
    rw [hv]
    by_cases ha : askE c x = 0
    · rw [ha] at h17
      by_cases hc : cl < 0
      · have g1 : (cl < 0) = True := eq_true hc
        have tE := aI uU <| aI Cf.cells.eq_1 <| aI Fs.cells.eq_1 <| aI Ca.cells.eq_1 <| aI g1 <| tfR70.down; repeat' first | (refine Red.h ?_) | ((with_reducible first | apply wz tkR7 | apply wr_z tkR7); exact zZ; decide) | ((with_reducible first | apply wzg tkR7 | apply wr_zg tkR7); exact zU; exact zL; exact zU; exact zZ; decide) | ((with_reducible first | apply wskip' | apply wr_skip); exact zU; exact zL; exact zU; decide) | ((with_reducible first | apply w_alloc tkR7); exact zT; decide) | ((with_reducible first | apply w_store tkR7); exact zV; exact zV; exact zS) | ((with_reducible first | apply wcall' | apply wr_call); exact zV; exact zVs; exact zAs; (focus (with_unfolding_all first | exact h15 | exact h17)); decide) | ((with_reducible first | apply w_ift'); exact zV; exact zU) | ((with_reducible first | apply w_iff'); exact zV; exact zU) | ((with_reducible apply w_ret); (repeat refine Red.h ?_); (with_reducible first | apply donef_ret tkR7 | apply doneA_ret tkR7); exact zT; exact zD) | fail
        all_goals try clear tE
        exact ⟨_, rfl, fz_zero _ _, fun id hid => by repeat rw [upd_ne _ _ (by omega)]⟩
      · have g1 : (cl < 0) = False := eq_false hc
        have g2 : (cl ≥ c.cl) = True := eq_true (by omega)
        have tE := aI uU <| aI Cf.cells.eq_1 <| aI Fs.cells.eq_1 <| aI Ca.cells.eq_1 <| aI g1 <| aI g2 <| tfR70.down; repeat' first | (refine Red.h ?_) | ((with_reducible first | apply wz tkR7 | apply wr_z tkR7); exact zZ; decide) | ((with_reducible first | apply wzg tkR7 | apply wr_zg tkR7); exact zU; exact zL; exact zU; exact zZ; decide) | ((with_reducible first | apply w_alloc tkR7); exact zT; decide) | ((with_reducible first | apply w_store tkR7); exact zV; exact zV; exact zS) | ((with_reducible first | apply wcall' | apply wr_call); exact zV; exact zVs; exact zAs; (focus (with_unfolding_all first | exact h15 | exact h17)); decide) | ((with_reducible first | apply w_ift'); exact zV; exact zU) | ((with_reducible first | apply w_iff'); exact zV; exact zU) | ((with_reducible apply w_ret); (repeat refine Red.h ?_); (with_reducible first | apply donef_ret tkR7 | apply doneA_ret tkR7); exact zT; exact zD) | fail
        all_goals try clear tE
        exact ⟨_, rfl, fz_zero _ _, fun id hid => by repeat rw [upd_ne _ _ (by omega)]⟩
    · have g0 : (askE c x != 0) = true := by simp [ha]
      have tE := aI uU <| aI Cf.cells.eq_1 <| aI Fs.cells.eq_1 <| aI Ca.cells.eq_1 <| aI g0 <| tfR70.down; repeat' first | (refine Red.h ?_) | ((with_reducible first | apply wz tkR7 | apply wr_z tkR7); exact zZ; decide) | ((with_reducible first | apply wskip' | apply wr_skip); exact zU; exact zL; exact zU; decide) | ((with_reducible first | apply w_alloc tkR7); exact zT; decide) | ((with_reducible first | apply w_store tkR7); exact zV; exact zV; exact zS) | ((with_reducible first | apply wcall' | apply wr_call); exact zV; exact zVs; exact zAs; (focus (with_unfolding_all first | exact h15 | exact h17)); decide) | ((with_reducible first | apply w_ift'); exact zV; exact zU) | ((with_reducible first | apply w_iff'); exact zV; exact zU) | ((with_reducible apply w_ret); (repeat refine Red.h ?_); (with_reducible first | apply donef_ret tkR7 | apply doneA_ret tkR7); exact zT; exact zD) | fail
      all_goals try clear tE
      exact ⟨_, rfl, fz_zero _ _, fun id hid => by repeat rw [upd_ne _ _ (by omega)]⟩
  · have h8' : eT c f q = 8 := by unfold eT at h8 ⊢; split at h8 <;> first | (exact absurd rfl h8) | (rename_i hh; rw [if_neg hh])
    rw [h8'] at h15
    have hv : doE c f q cl x = 8 := by rw [doE, if_neg h8]
    rw [hv]
    have tE := aI uU <| aI Cf.cells.eq_1 <| aI Fs.cells.eq_1 <| aI Ca.cells.eq_1 <| tfR70.down; repeat' first | (refine Red.h ?_) | ((with_reducible first | apply wz tkR7 | apply wr_z tkR7); exact zZ; decide) | ((with_reducible first | apply w_alloc tkR7); exact zT; decide) | ((with_reducible first | apply w_store tkR7); exact zV; exact zV; exact zS) | ((with_reducible first | apply wcall' | apply wr_call); exact zV; exact zVs; exact zAs; (focus (with_unfolding_all first | exact h15 | exact h17)); decide) | ((with_reducible first | apply w_ift'); exact zV; exact zU) | ((with_reducible apply w_ret); (repeat refine Red.h ?_); (with_reducible first | apply donef_ret tkR7 | apply doneA_ret tkR7); exact zT; exact zD) | fail
    all_goals try clear tE
    exact ⟨_, rfl, fz_zero _ _, fun id hid => by repeat rw [upd_ne _ _ (by omega)]⟩
theorem doE_parts {c : Cf} {f : Fs} {q : List Un} {cl : Int} {x : Ca} (he : doE c f q cl x = 0) : okF c f = true ∧ qok c q = true ∧ Tog f q ∧ askE c x = 0 ∧ 0 ≤ cl ∧ cl < c.cl ∧ eT c f q = 0 := by
  unfold doE at he
  split at he
  · rename_i h8
    split at he
    · rename_i h
      have h9 := h8
      unfold eT at h9
      split at h9
      · rename_i h10; exact ⟨h10.1, h10.2.1, h10.2.2, h.1, h.2.1, h.2.2, h8⟩
      · cases h9
    · cases he
  · cases he
theorem ac11_ok [GO] (hgo : GoOK) (c : Cf) (f : Fs) (q : List Un) (cl : Int) (x : Ca) (hl : f.l.length ≤ 1000) (hd : ∀ x, x ∈ f.l → x.d.length ≤ 1000000 ∧ x.pins.length ≤ 1000000) (hq : q.length ≤ 1000) (hdq : ∀ u, u ∈ q → u.d.length ≤ 1000000) (hxd : x.d.length ≤ 1000000) (H : Heap) (n : Nat) (h0 : H 0 = some (.glob 0 (GO.o 0))) (hn : 0 < n) (he : doE c f q cl x = 0) :
    AC Tryz.prog 11 [.agg c.cells, .agg f.cells, .view (unRows q), .int .i64 cl, .agg x.cells] H n (fun r H' n' => r = .ret (.tuple [.agg (doR c f q cl x).cells, .int .i64 0]) ∧ H' = H ∧ n' = n) := by
  obtain ⟨e1, e2, e3, e4, e5, e6, e7⟩ := doE_parts he
  have h15 := pf15 c f q (Nat.le_trans hl (by decide)) (fun x hx => (hd x hx).2) (Nat.le_trans hq (by decide))
  have h17 : PF Tryz.prog 17 [.agg c.cells, .agg x.cells] (fun r => r = .int .i64 (askE c x)) := pf17 c x
  rw [e7] at h15
  rw [e4] at h17
  have h13 := pf13_0 f q (Nat.le_trans hl (by decide)) hd (Nat.le_trans hq (by decide)) hdq
  simp only [Po.cells, p0] at h13
  have hP : PlOk c cl (p0 f q 0) := ⟨e1, hl, hd, hq, hdq, e5, e6⟩
  have h37 := fun H2 hL2 => ac37R c cl (p0 f q 0) x H2 (n + 1 + 1 + 1) (n + 1) hL2 (by omega) hP hxd
  have hR : doR c f q cl x = if (callR c cl (p0 f q 0) x).2 = 0 then (callR c cl (p0 f q 0) x).1 else p0 f q (callR c cl (p0 f q 0) x).2 := rfl
  rw [hR]
  generalize (callR c cl (p0 f q 0) x).2 = e at h37 ⊢
  generalize (callR c cl (p0 f q 0) x).1 = P1 at h37 ⊢
  have hB : ∀ X Z, upd (upd (upd H n X) (n + 1) (some (.cells (plC c cl (p0 f q 0)) 79))) (n + 1 + 1) Z (n + 1) = some (.cells (plC c cl (p0 f q 0)) 79) := fun X Z => by rw [upd_ne _ _ (by omega), upd_same]
  have q1 : (n == n + 1) = false := by rw [beq_eq_false_iff_ne]; omega
  have q2 : (n == n + 1 + 1) = false := by rw [beq_eq_false_iff_ne]; omega
  have q3 : (n + 1 == n + 1 + 1) = false := by rw [beq_eq_false_iff_ne]; omega
  have q4 : (n + 1 + 1 == n + 1) = false := by rw [beq_eq_false_iff_ne]; omega
  have q5 : (n + 1 == n) = false := by rw [beq_eq_false_iff_ne]; omega
  have q6 : (n + 1 + 1 == n) = false := by rw [beq_eq_false_iff_ne]; omega
  have q7 : (n == n + 1 + 1 + 1) = false := by rw [beq_eq_false_iff_ne]; omega
  have q8 : (n + 1 + 1 == n + 1 + 1 + 1) = false := by rw [beq_eq_false_iff_ne]; omega
  have q9 : (n + 1 + 1 + 1 == n) = false := by rw [beq_eq_false_iff_ne]; omega
  have hfv : Pur (.vptr f.cells) := .vptr (fs_pur f)
  have hcv : Pur (.vptr c.cells) := .vptr (cells_pur c)
  have hxv : Pur (.vptr x.cells) := .vptr (ca_pur x)
  have hqv := unRows_pur q
  have hv1 := frRows_pur f.l
  have g1 : (cl < 0) = False := eq_false (by omega)
  have g2 : (cl ≥ c.cl) = False := eq_false (by omega)
  have hL0 := h0
  simp only [Ca.cells] at h37
  by_cases hE : e = 0
  · rw [if_pos hE]
    rw [hE] at h37
    refine ac_norm (poe_pur _ _) (ac_of_w Tryz.func11 (c := _) rfl (Nat.le_of_ble_eq_true rfl) ?_)
    rw [show Tryz.f11.ntmps = 65 from rfl]
    simp only [errV, if_true] at h37
    have tE := aI uU <| aI Cf.cells.eq_1 <| aI Fs.cells.eq_1 <| aI Ca.cells.eq_1 <| aI plC.eq_1 <| aI g1 <| aI g2 <| aI q1 <| aI q2 <| aI q3 <| aI q4 <| aI q5 <| aI q6 <| tfR70.down; repeat' first | (refine Red.h ?_) | ((with_reducible apply w_live (lvAt [[0, 1, 2, 3, 4], [2, 3, 5, 6, 9, 10], [2, 3, 5, 6, 9, 10, 12], [10, 12], [2, 3, 5, 6, 9, 10], [10], [2, 3, 5, 6, 9, 10], [2, 6, 9, 10, 13], [2, 6, 9, 10, 13, 14], [2, 6, 10, 13, 14, 15], [2, 6, 10, 14], [10, 14, 16], [10, 16], [10, 13]])); (focus (simp only [lvAt_zero, lvAt_succ]; rfl)); exact zLv) | ((with_reducible first | apply wz tkR7 | apply wr_z tkR7); exact zZ; decide) | ((with_reducible first | apply wzg tkR7 | apply wr_zg tkR7); exact zU; exact zL; exact zU; exact zZ; decide) | ((with_reducible first | apply w_alloc tkR7); exact zT; decide) | ((with_reducible first | apply w_store tkR7); exact zV; exact zV; exact zS) | ((with_reducible first | apply wcall' | apply wr_call); exact zV; exact zVs; exact zAs; (focus (with_unfolding_all first | exact h15 | exact h17 | exact h13)); decide) | ((with_reducible first | apply wacall'); exact zV; exact zVs; exact zAs; (focus (first | exact ⟨_, Tryz.func37, rfl, rfl⟩ | exact ⟨_, Tryz.func38, rfl, rfl⟩)); (focus (with_unfolding_all first | exact h37 _ (hB _ _) | exact ac38_nil)); decide) | ((with_reducible first | apply w_iff'); exact zV; exact zU) | ((with_reducible first | apply fm_nil | apply fm_cons)) | ((with_reducible apply m_next); exact zU) | ((with_reducible apply m_nil0); exact zU) | ((with_reducible first | apply m_v tkR7); exact zU; exact zZ; decide) | ((with_reducible first | apply m_xA tkR7); exact zU; exact zI; decide) | ((with_reducible first | apply m_chg); exact zU; (focus ((with_reducible apply c_box); exact zV; exact zU)); decide) | ((with_reducible first | apply m_call); exact zU; exact zV; exact zVs; exact zAs; (focus (with_unfolding_all first | exact h15 | exact h17 | exact h13)); decide) | ((with_reducible apply w_drawN (id := 6) [7] [([7], [0, 1, 2, 3, 4, 5, 6, 7, 8])] mixed); (focus (decide +kernel))) | ((with_reducible apply w_ret); (repeat refine Red.h ?_); (with_reducible first | apply donef_ret tkR7 | apply doneA_ret tkR7); exact zT; exact zD) | fail
    all_goals try clear tE
    exact ⟨_, rfl, .pur (poe_pur P1 0), fun id hid => by repeat rw [upd_ne _ _ (by omega)]⟩
  · rw [if_neg hE]
    refine ac_norm (poe_pur _ _) (ac_of_w Tryz.func11 (c := _) rfl (Nat.le_of_ble_eq_true rfl) ?_)
    rw [show Tryz.f11.ntmps = 65 from rfl]
    simp only [errV, if_neg hE] at h37
    have h38 := fun (H2 : Heap) h0 hid => ac38 (H := H2) (n := n + 1 + 1 + 1) (id := n + 1 + 1) (v := e) (x := .int .i64 0) hgo h0 hid
    have tE := aI uU <| aI Cf.cells.eq_1 <| aI Fs.cells.eq_1 <| aI Ca.cells.eq_1 <| aI plC.eq_1 <| aI g1 <| aI g2 <| aI q1 <| aI q2 <| aI q3 <| aI q4 <| aI q5 <| aI q6 <| aI q7 <| aI q8 <| aI q9 <| tfR70.down; repeat' first | (refine Red.h ?_) | ((with_reducible apply w_live (lvAt [[0, 1, 2, 3, 4], [2, 3, 5, 6, 9, 10], [2, 3, 5, 6, 9, 10, 12], [10, 12], [2, 3, 5, 6, 9, 10], [10], [2, 3, 5, 6, 9, 10], [2, 6, 9, 10, 13], [2, 6, 9, 10, 13, 14], [2, 6, 10, 13, 14, 15], [2, 6, 10, 14], [10, 14, 16], [10, 16], [10, 13]])); (focus (simp only [lvAt_zero, lvAt_succ]; rfl)); exact zLv) | ((with_reducible first | apply wz tkR7 | apply wr_z tkR7); exact zZ; decide) | ((with_reducible first | apply wzg tkR7 | apply wr_zg tkR7); exact zU; exact zL; exact zU; exact zZ; decide) | ((with_reducible first | apply w_alloc tkR7); exact zT; decide) | ((with_reducible first | apply w_store tkR7); exact zV; exact zV; exact zS) | ((with_reducible first | apply wcall' | apply wr_call); exact zV; exact zVs; exact zAs; (focus (with_unfolding_all first | exact h15 | exact h17 | exact h13)); decide) | ((with_reducible first | apply wacall'); exact zV; exact zVs; exact zAs; (focus (first | exact ⟨_, Tryz.func37, rfl, rfl⟩ | exact ⟨_, Tryz.func38, rfl, rfl⟩)); (focus (with_unfolding_all first | exact h37 _ (hB _ _) | exact h38 _ zLk (up1 (by omega) (upd_same _ _ _)))); decide) | ((with_reducible first | apply w_ift'); exact zV; exact zU) | ((with_reducible first | apply w_iff'); exact zV; exact zU) | ((with_reducible first | apply fm_nil | apply fm_cons)) | ((with_reducible apply m_next); exact zU) | ((with_reducible apply m_nil0); exact zU) | ((with_reducible first | apply m_v tkR7); exact zU; exact zZ; decide) | ((with_reducible first | apply m_xA tkR7); exact zU; exact zI; decide) | ((with_reducible first | apply m_chg); exact zU; (focus ((with_reducible apply c_box); exact zV; exact zU)); decide) | ((with_reducible first | apply m_call); exact zU; exact zV; exact zVs; exact zAs; (focus (with_unfolding_all first | exact h15 | exact h17 | exact h13)); decide) | ((with_reducible apply w_drawN (id := 6) [7] [([7], [0, 1, 2, 3, 4, 5, 6, 7, 8])] mixed); (focus (decide +kernel))) | ((with_reducible apply w_ret); (repeat refine Red.h ?_); (with_reducible first | apply donef_ret tkR7 | apply doneA_ret tkR7); exact zT; exact zD) | fail
    all_goals try clear tE
    exact ⟨_, rfl, .pur (poe_pur (p0 f q e) 0), fun id hid => by repeat rw [upd_ne _ _ (by omega)]⟩
/-- pool.Do: what it answers; errors.As reads the package variable. -/
theorem ac11 [GO] (hgo : GoOK) (c : Cf) (f : Fs) (q : List Un) (cl : Int) (x : Ca) (hl : f.l.length ≤ 1000) (hd : ∀ x, x ∈ f.l → x.d.length ≤ 1000000 ∧ x.pins.length ≤ 1000000) (hq : q.length ≤ 1000) (hdq : ∀ u, u ∈ q → u.d.length ≤ 1000000) (hxd : x.d.length ≤ 1000000) (H : Heap) (n : Nat) (h0 : H 0 = some (.glob 0 (GO.o 0))) (hn : 0 < n) :
    AC Tryz.prog 11 [.agg c.cells, .agg f.cells, .view (unRows q), .int .i64 cl, .agg x.cells] H n (fun r H' n' => r = .ret (.tuple [.agg (doP c f q cl x).cells, .int .i64 (doE c f q cl x)]) ∧ H' = H ∧ n' = n) := by
  by_cases he : doE c f q cl x = 0
  · rw [doP, if_pos he, he]
    exact ac11_ok hgo c f q cl x hl hd hq hdq hxd H n h0 hn he
  · rw [doP, if_neg he]
    exact ac11_bad c f q cl x hl hd hq hdq H n he
end Go.Proofs.YtlmighkbeacjnaaGreatDoor


