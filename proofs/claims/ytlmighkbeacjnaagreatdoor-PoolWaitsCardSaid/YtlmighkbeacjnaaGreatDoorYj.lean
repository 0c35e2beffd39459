/- The reference of frames: one, May, Check, At, Find (functions that only compute). The reference of frames: At, May, Check, Find. The reference of frames: May, Check, Find. Find and the reference's Find. The reference's New: one free frame, free frames. Written, and Dirty. -/
import Derived.Test.YtlmighkbeacjnaaGreatDoorLm5
import Derived.Test.YtlmighkbeacjnaaGreatDoorYf

open Go Go.Lg
set_option linter.unusedSimpArgs false
set_option linter.unusedVariables false
set_option maxHeartbeats 4000000
set_option maxRecDepth 20000
namespace Go.Proofs.YtlmighkbeacjnaaGreatDoor
end Go.Proofs.YtlmighkbeacjnaaGreatDoor


open Go Go.Lg
set_option linter.unusedSimpArgs false
set_option linter.unusedVariables false
set_option maxHeartbeats 4000000
set_option maxRecDepth 20000
namespace Go.Proofs.YtlmighkbeacjnaaGreatDoor
end Go.Proofs.YtlmighkbeacjnaaGreatDoor


open Go Go.Lg
set_option linter.unusedSimpArgs false
set_option linter.unusedVariables false
set_option maxHeartbeats 4000000
set_option maxRecDepth 20000
namespace Go.Proofs.YtlmighkbeacjnaaGreatDoor
end Go.Proofs.YtlmighkbeacjnaaGreatDoor


open Go Go.Lg
set_option linter.unusedSimpArgs false
set_option linter.unusedVariables false
set_option maxHeartbeats 4000000
set_option maxRecDepth 20000
namespace Go.Proofs.YtlmighkbeacjnaaGreatDoor
theorem tkH4 : TOK Tryz.prog (tyOf Tryz.prog) := tok Tryz.prog
def findB (c : Cf) (f : Fs) (p : Int) : Bool := okF c f && decide (0 ≤ fidx (isAt p) f.l 0)
def findI (c : Cf) (f : Fs) (p : Int) : Int := if findB c f p = true then fidx (isAt p) f.l 0 else 0
theorem pf59 (c : Cf) (f : Fs) (p : Int) (hl : f.l.length ≤ 1000000) (hpl : ∀ x, x ∈ f.l → x.pins.length ≤ 1000000) : PF Tryz.prog 59 [.agg c.cells, .agg f.cells, .int .i64 p] (fun r => r = .tuple [.int .i64 (findI c f p), .bool (findB c f p)]) := by
  cases hok : okF c f with
  | false =>
    have := pf59_bad c f p hl hpl hok
    simpa [findI, findB, hok] using this
  | true =>
    by_cases hn : 0 ≤ fidx (isAt p) f.l 0
    · have hat : (((fidx (isAt p) f.l 0).toNat : Nat) : Int) = fidx (isAt p) f.l 0 := by omega
      have := pf59_ok c f p hl hpl hok (fidx (isAt p) f.l 0).toNat hat.symm
      rw [hat] at this
      simpa [findI, findB, hok, hn] using this
    · have ev : eF c f = 0 := by simp [eF, hok]
      have h11 := pf43 c f hl hpl
      have h58 := pf103 f p hl
      have g1 : (fidx (isAt p) f.l 0 ≥ 0) = False := eq_false (by omega)
      have hx : 0 > fidx (isAt p) f.l 0 := by omega
      have g2 : (0 > fidx (isAt p) f.l 0) = True := eq_true hx
      have hmx : max (fidx (isAt p) f.l 0) 0 = 0 := by omega
      refine pf_of_w0 Tryz.func59 (c := _) rfl rfl (Nat.le_of_ble_eq_true rfl) args_3i ?_
      rw [show Tryz.f59.ntmps = 20 from rfl]
      have tE := aI uU <| aI Cf.cells.eq_1 <| aI Fs.cells.eq_1 <| aI ev <| aI g1 <| aI hmx <| aI ty3 <| aI ty4 <| aI ty5 <| aI ty23 <| aI ty24 <| aI ty26 <| aI ty28 <| aI ty34 <| aI ty72 <| aI ty74 <| Tryz.results59; repeat' first | (refine Red.h ?_) | ((with_reducible first | apply wz tkH4 | apply wr_z tkH4); exact zZ; decide) | ((with_reducible first | apply wcall' | apply wr_call); exact zV; exact zVs; exact zAs; (focus (with_unfolding_all first | exact h11 | exact h58)); decide) | ((with_reducible first | apply wp | apply wr_p); (focus (first | ((with_reducible first | apply pure_max); exact zV; exact zV) | ((with_reducible first | apply pure_bs1 tkH4); exact zT; exact zU; exact zT; exact zP; exact zR; exact zC; decide; decide; exact zU; exact zU))); decide) | ((with_reducible first | apply w_iff'); exact zV; exact zU) | ((with_reducible apply w_ret); (repeat refine Red.h ?_); (with_reducible apply done_ret tkH4); exact zT; exact zD; exact zX) | fail
      all_goals try clear tE
      simp [tup, findI, findB, hok, hn, hx]
end Go.Proofs.YtlmighkbeacjnaaGreatDoor


open Go Go.Lg
set_option linter.unusedSimpArgs false
set_option linter.unusedVariables false
set_option maxHeartbeats 4000000
set_option maxRecDepth 20000
namespace Go.Proofs.YtlmighkbeacjnaaGreatDoor
/-- Dirty frames of a list, by their numbers from i on. -/
def dirtyL : List Fr → Nat → List Int
  | [], _ => []
  | x :: l, i => if x.dt = true then (i : Int) :: dirtyL l (i + 1) else dirtyL l (i + 1)
theorem dirtyL_append (l : List Fr) (x : Fr) : ∀ i, dirtyL (l ++ [x]) i = dirtyL l i ++ (if x.dt = true then [((i + l.length : Nat) : Int)] else []) := by
  induction l with
  | nil => intro i; simp [dirtyL]
  | cons y l ih =>
    intro i
    simp only [List.cons_append, dirtyL, ih, List.length_cons]
    have : i + 1 + l.length = i + (l.length + 1) := by omega
    split <;> simp [this]
theorem dirtyL_len (l : List Fr) : ∀ i, (dirtyL l i).length ≤ l.length := by
  induction l with
  | nil => intro i; exact Nat.le_refl _
  | cons y l ih =>
    intro i
    have := ih (i + 1)
    simp only [dirtyL, List.length_cons]
    split
    · simp only [List.length_cons]; omega
    · omega
theorem dirtyL_take {l : List Fr} {i : Nat} {u : Fr} (hu : l[i]? = some u) : dirtyL (l.take (i + 1)) 0 = dirtyL (l.take i) 0 ++ (if u.dt = true then [(i : Int)] else []) := by
  have hi := (List.getElem?_eq_some_iff.1 hu).1
  have : l.take (i + 1) = l.take i ++ [u] := by rw [List.take_add_one, hu]; rfl
  rw [this, dirtyL_append, List.length_take, Nat.min_eq_left (Nat.le_of_lt hi), Nat.zero_add]
end Go.Proofs.YtlmighkbeacjnaaGreatDoor


open Go Go.Lg
set_option linter.unusedSimpArgs false
set_option linter.unusedVariables false
set_option maxHeartbeats 4000000
set_option maxRecDepth 20000
namespace Go.Proofs.YtlmighkbeacjnaaGreatDoor
theorem tkH8 : TOK Tryz.prog (tyOf Tryz.prog) := tok Tryz.prog
def tfH81 := PLift.up (aI ty3 <| aI ty4 <| aI ty5 <| aI ty23 <| aI ty24 <| aI ty26 <| aI ty28 <| aI ty34 <| aI ty72 <| aI ty74 <| Tryz.results92)
/-- A list of ints that grows: nothing yet, or an own slice. -/
def dsA (ds : List Int) (o : Nat) : AV := match ds with
  | [] => .empty
  | _ :: _ => .slice o 0 ds.length none 1
theorem dsA_own {H : Heap} {ds : List Int} {o : Nat} (h : ds ≠ [] → H o = some (.cells (intRows ds).flatten 3)) : Own H (fun _ => True) (dsA ds o) (.view (intRows ds)) := by
  cases ds with
  | nil => exact .nothing
  | cons d ds => exact own_ints trivial (h (by simp)) (intRows_len _)
structure DsI (ds : List Int) (o : Nat) (H : Heap) (k : Nat) : Prop where
  blk : ds ≠ [] → o < k ∧ H o = some (.cells (intRows ds).flatten 3)
theorem dsI_new {H : Heap} {k : Nat} {x : Int} : DsI [x] k (upd H k (some (.cells [[AV.int .i64 x]].flatten 3))) (k + 1) := ⟨fun _ => ⟨by omega, by rw [upd_same]; rfl⟩⟩
theorem dsI_more {H : Heap} {k : Nat} {x : Int} {ds : List Int} : DsI (ds ++ [x]) k (upd H k (some (.cells ((intRows ds).flatten ++ [[AV.int .i64 x]].flatten) 3))) (k + 1) := ⟨fun _ => ⟨by omega, by rw [upd_same]; simp [intRows]⟩⟩
theorem dsA_one (x : Int) (k : Nat) : dsA [x] k = .slice k 0 1 none 1 := rfl
theorem dsA_more (d x : Int) (ds : List Int) (k : Nat) : dsA (d :: ds ++ [x]) k = .slice k 0 (ds.length + 1 + 1) none 1 := by simp [dsA]
theorem args_2cf {c : Cf} {f : Fs} : ∀ x, x ∈ [AV.agg c.cells, .agg f.cells] → Pur x := args_2 (cf_pur c) (fsa_pur f)
/-- What Dirty answers. -/
def dirtyF (c : Cf) (f : Fs) : List Int := if okF c f = true then dirtyL f.l 0 else []
theorem nf92_bad (c : Cf) (f : Fs) (hl : f.l.length ≤ 1000000) (hpl : ∀ x, x ∈ f.l → x.pins.length ≤ 1000000) (hok : okF c f = false) : NF Tryz.prog 92 [.agg c.cells, .agg f.cells] (fun r => r = .view (intRows [])) := by
  have h11 := pf43 c f hl hpl
  have ev : eF c f = 8 := by simp [eF, hok]
  have hfv : Pur (.vptr f.cells) := .vptr (fs_pur f)
  have hcv : Pur (.vptr c.cells) := .vptr (cells_pur c)
  refine nf_of_w0 Tryz.func92 (c := _) rfl rfl (Nat.le_of_ble_eq_true rfl) args_2cf ?_
  rw [show Tryz.f92.ntmps = 30 from rfl]
  have tE := aI uU <| aI Cf.cells.eq_1 <| aI Fs.cells.eq_1 <| aI ev <| tfH81.down; repeat' first | (refine Red.h ?_) | ((with_reducible first | apply wz tkH8 | apply wr_z tkH8); exact zZ; decide) | fail
  all_goals try clear tE
  refine w_loopP (S := Unit) (fun s => [(2, .vptr c.cells), (3, .vptr f.cells), (4, .empty), (5, .int .i64 0)]) [] (fun s H k => True) (fun s => 0) () ?_ rfl trivial ?_
  · (have tE := aI uU <| aI Cf.cells.eq_1 <| Fs.cells.eq_1; simp only [fitsT, List.take_zero, List.length_nil, sp_cons, sp_nil, upd_b, Nat.reduceBEq, cond_true, cond_false, args0_zero, args0_succ, args0_nil, tE]; repeat' first | exact trivial | apply aI | exact Sub.refl _ | exact Sub.cap)
  · rintro _ H k -
    have tE := aI uU <| aI Cf.cells.eq_1 <| aI Fs.cells.eq_1 <| aI ev <| tfH81.down; repeat' first | (refine Red.h ?_) | ((with_reducible first | apply wz tkH8 | apply wr_z tkH8); exact zZ; decide) | ((with_reducible first | apply wskip' | apply wr_skip); exact zU; exact zL; exact zU; decide) | ((with_reducible first | apply wcall' | apply wr_call); exact zV; exact zVs; exact zAs; (focus (with_unfolding_all first | exact h11)); decide) | ((with_reducible first | apply w_iff'); exact zV; exact zU) | ((with_reducible apply w_ret); (repeat refine Red.h ?_); (with_reducible first | apply donef_ret tkH8 | apply doneA_ret tkH8); exact zT; exact zD) | fail
    all_goals try clear tE
    exact ⟨_, _, rfl, .nothing, rfl⟩
theorem nf92_ok (c : Cf) (f : Fs) (hl : f.l.length ≤ 1000000) (hpl : ∀ x, x ∈ f.l → x.pins.length ≤ 1000000) (hok : okF c f = true) : NF Tryz.prog 92 [.agg c.cells, .agg f.cells] (fun r => r = .view (intRows (dirtyL f.l 0))) := by
  have h11 := pf43 c f hl hpl
  have ev : eF c f = 0 := by simp [eF, hok]
  refine nf_of_w0 Tryz.func92 (c := _) rfl rfl (Nat.le_of_ble_eq_true rfl) args_2cf ?_
  rw [show Tryz.f92.ntmps = 30 from rfl]
  have hfv : Pur (.vptr f.cells) := .vptr (fs_pur f)
  have hcv : Pur (.vptr c.cells) := .vptr (cells_pur c)
  have tE := aI uU <| aI Fs.cells.eq_1 <| aI Cf.cells.eq_1 <| tfH81.down; repeat' first | (refine Red.h ?_) | ((with_reducible first | apply wz tkH8 | apply wr_z tkH8); exact zZ; decide) | fail
  all_goals try clear tE
  refine w_loopP (S := Nat × Nat) (fun s => [(2, .vptr c.cells), (3, .vptr f.cells), (4, dsA (dirtyL (f.l.take s.1) 0) s.2), (5, .int .i64 (s.1 : Int))]) [] (fun s H k => s.1 ≤ f.l.length ∧ DsI (dirtyL (f.l.take s.1) 0) s.2 H k) (fun s => f.l.length - s.1) (0, 0) ?_ rfl ?_ ?_
  · (have tE := aI uU <| aI Fs.cells.eq_1 <| aI Cf.cells.eq_1 <| aI dirtyL.eq_1 <| dsA.eq_1; simp only [fitsT, List.take_zero, List.length_nil, sp_cons, sp_nil, upd_b, Nat.reduceBEq, cond_true, cond_false, args0_zero, args0_succ, args0_nil, tE]; repeat' first | exact trivial | apply aI | exact Sub.refl _ | exact Sub.cap)
  · exact ⟨Nat.zero_le _, ⟨fun h => absurd rfl h⟩⟩
  · rintro ⟨i, o⟩ H k ⟨hi, hb⟩
    simp only at hi hb
    have hw : IntKind.i64.wrap ((i : Int) + 1) = ((i + 1 : Nat) : Int) := by rw [wrap64 (by omega) (by omega)]; rfl
    have g0 : (0 ≤ (i : Int)) = True := by simp
    by_cases e : i < f.l.length
    · have g1 : ((i : Int) < (f.l.length : Int)) = True := by simp; omega
      obtain ⟨u, hu⟩ : ∃ u, f.l[i]? = some u := ⟨f.l[i], List.getElem?_eq_getElem e⟩
      have hr := fr_row hu
      have ht := dirtyL_take hu
      cases hdt : u.dt with
      | false =>
        rw [hdt, if_neg (by decide), List.append_nil] at ht
        have tE := aI uU <| aI g1 <| aI g0 <| aI hr <| aI hw <| aI hdt <| aI ev <| aI Cf.cells.eq_1 <| aI Fs.cells.eq_1 <| aI Fr.cells.eq_1 <| aI frRows_len <| tfH81.down; repeat' first | (refine Red.h ?_) | ((with_reducible first | apply wz tkH8 | apply wr_z tkH8); exact zZ; decide) | ((with_reducible first | apply wzg tkH8 | apply wr_zg tkH8); exact zU; exact zL; exact zU; exact zZ; decide) | ((with_reducible first | apply wcall' | apply wr_call); exact zV; exact zVs; exact zAs; (focus (with_unfolding_all first | exact h11)); decide) | ((with_reducible first | apply w_ift'); exact zV; exact zU) | ((with_reducible first | apply w_iff'); exact zV; exact zU) | fail
        all_goals try clear tE
        refine ⟨(i + 1, o), by simp only; omega, ⟨by simp only; omega, by rw [ht]; exact hb⟩, rfl, ?_⟩
        (have tE := aI uU <| aI hw <| aI ht <| aI Fs.cells.eq_1 <| Cf.cells.eq_1; simp only [fitsT, List.take_zero, List.length_nil, sp_cons, sp_nil, upd_b, Nat.reduceBEq, cond_true, cond_false, args0_zero, args0_succ, args0_nil, tE]; repeat' first | exact trivial | apply aI | exact Sub.refl _ | exact Sub.cap)
      | true =>
        rw [hdt, if_pos rfl] at ht
        have hbd := dirtyL_len (f.l.take i) 0
        rw [List.length_take] at hbd
        generalize dirtyL (f.l.take i) 0 = ds at hb ht hbd
        cases ds with
        | nil =>
          have tE := aI uU <| aI g1 <| aI g0 <| aI hr <| aI hw <| aI hdt <| aI dsA.eq_1 <| aI ev <| aI Cf.cells.eq_1 <| aI Fs.cells.eq_1 <| aI Fr.cells.eq_1 <| aI frRows_len <| tfH81.down; repeat' first | (refine Red.h ?_) | ((with_reducible first | apply wz tkH8 | apply wr_z tkH8); exact zZ; decide) | ((with_reducible first | apply wzg tkH8 | apply wr_zg tkH8); exact zU; exact zL; exact zU; exact zZ; decide) | ((with_reducible first | apply wcall' | apply wr_call); exact zV; exact zVs; exact zAs; (focus (with_unfolding_all first | exact h11)); decide) | ((with_reducible first | apply w_ap | apply wr_ap); (focus (first | (intro _ ho _ hr _; (with_reducible apply ap_new tkH8 ho (hr := hr)); exact zT; exact zU; exact zT; exact zT; exact zU; exact zA; exact zV; exact zK; exact zM; exact zK; exact zK; decide) | (intro _ ho _ hr _; (with_reducible apply ap_own tkH8 ho (hr := hr)); exact zT; exact zU; exact zT; exact zT; exact zU; exact zV; exact zV; exact zH; exact zKo; exact zM; (focus (first | rfl | assumption)); exact zKo; exact zKo; decide))); decide) | ((with_reducible first | apply wp | apply wr_p); (focus (first | ((with_reducible first | apply pure_bs1 tkH8); exact zT; exact zU; exact zT; exact zP; exact zR; exact zC; decide; decide; exact zU; exact zU))); decide) | ((with_reducible first | apply w_ift'); exact zV; exact zU) | fail
          all_goals try clear tE
          have hds := dsA_one (i : Int) k
          refine ⟨(i + 1, k), by simp only; omega, ⟨by simp only; omega, by rw [ht]; exact dsI_new⟩, rfl, ?_⟩
          simp only [ht, List.nil_append]
          (have tE := aI uU <| aI hw <| aI hds <| aI Fs.cells.eq_1 <| Cf.cells.eq_1; simp only [fitsT, List.take_zero, List.length_nil, sp_cons, sp_nil, upd_b, Nat.reduceBEq, cond_true, cond_false, args0_zero, args0_succ, args0_nil, tE]; repeat' first | exact trivial | apply aI | exact Sub.refl _ | exact Sub.cap)
        | cons d ds =>
          have hbl := (hb.blk (by simp)).2
          have hok := (hb.blk (by simp)).1
          have hdl : ds.length ≤ 1000000 := by rw [List.length_cons] at hbd; omega
          have hfl : (intRows (d :: ds)).flatten.length = ds.length + 1 := by rw [flat_len (intRows_row _), intRows_len, Nat.mul_one, List.length_cons]
          have tE := aI uU <| aI g1 <| aI g0 <| aI hr <| aI hw <| aI hdt <| aI dsA.eq_2 <| aI hbl <| aI hfl <| aI ev <| aI Cf.cells.eq_1 <| aI Fs.cells.eq_1 <| aI Fr.cells.eq_1 <| aI frRows_len <| tfH81.down; repeat' first | (refine Red.h ?_) | ((with_reducible first | apply wz tkH8 | apply wr_z tkH8); exact zZ; decide) | ((with_reducible first | apply wzg tkH8 | apply wr_zg tkH8); exact zU; exact zL; exact zU; exact zZ; decide) | ((with_reducible first | apply wcall' | apply wr_call); exact zV; exact zVs; exact zAs; (focus (with_unfolding_all first | exact h11)); decide) | ((with_reducible first | apply w_ap | apply wr_ap); (focus (first | (intro _ ho _ hr _; (with_reducible apply ap_new tkH8 ho (hr := hr)); exact zT; exact zU; exact zT; exact zT; exact zU; exact zA; exact zV; exact zK; exact zM; exact zK; exact zK; decide) | (intro _ ho _ hr _; (with_reducible apply ap_own tkH8 ho (hr := hr)); exact zT; exact zU; exact zT; exact zT; exact zU; exact zV; exact zV; exact zH; exact zKo; exact zM; (focus (first | rfl | assumption)); exact zKo; exact zKo; decide))); decide) | ((with_reducible first | apply wp | apply wr_p); (focus (first | ((with_reducible first | apply pure_bs1 tkH8); exact zT; exact zU; exact zT; exact zP; exact zR; exact zC; decide; decide; exact zU; exact zU))); decide) | ((with_reducible first | apply w_ift'); exact zV; exact zU) | fail
          all_goals try clear tE
          have hds := dsA_more d (i : Int) ds k
          refine ⟨(i + 1, k), by simp only; omega, ⟨by simp only; omega, by rw [ht]; exact dsI_more⟩, rfl, ?_⟩
          simp only [ht]
          (have tE := aI uU <| aI hw <| aI hds <| aI Fs.cells.eq_1 <| Cf.cells.eq_1; simp only [fitsT, List.take_zero, List.length_nil, sp_cons, sp_nil, upd_b, Nat.reduceBEq, cond_true, cond_false, args0_zero, args0_succ, args0_nil, tE]; repeat' first | exact trivial | apply aI | exact Sub.refl _ | exact Sub.cap)
    · have g1 : ((i : Int) < (f.l.length : Int)) = False := by simp; omega
      have ei : i = f.l.length := by omega
      subst ei
      rw [List.take_length] at hb ⊢
      have ho := dsA_own (fun h => (hb.blk h).2)
      have tE := aI uU <| aI g1 <| aI g0 <| aI ev <| aI Cf.cells.eq_1 <| aI Fs.cells.eq_1 <| aI frRows_len <| tfH81.down; repeat' first | (refine Red.h ?_) | ((with_reducible first | apply wz tkH8 | apply wr_z tkH8); exact zZ; decide) | ((with_reducible first | apply wzg tkH8 | apply wr_zg tkH8); exact zU; exact zL; exact zU; exact zZ; decide) | ((with_reducible first | apply wcall' | apply wr_call); exact zV; exact zVs; exact zAs; (focus (with_unfolding_all first | exact h11)); decide) | ((with_reducible first | apply w_iff'); exact zV; exact zU) | ((with_reducible apply w_ret); (repeat refine Red.h ?_); (with_reducible first | apply donef_ret tkH8 | apply doneA_ret tkH8); exact zT; exact zD) | fail
      all_goals try clear tE
      exact ⟨_, _, rfl, ho, rfl⟩
theorem nf92 (c : Cf) (f : Fs) (hl : f.l.length ≤ 1000000) (hpl : ∀ x, x ∈ f.l → x.pins.length ≤ 1000000) : NF Tryz.prog 92 [.agg c.cells, .agg f.cells] (fun r => r = .view (intRows (dirtyF c f))) := by
  cases hok : okF c f with
  | false => exact (nf92_bad c f hl hpl hok).mono (fun x h => by rw [h, dirtyF, if_neg (by simp [hok])])
  | true => exact (nf92_ok c f hl hpl hok).mono (fun x h => by rw [h, dirtyF, if_pos hok])
end Go.Proofs.YtlmighkbeacjnaaGreatDoor


