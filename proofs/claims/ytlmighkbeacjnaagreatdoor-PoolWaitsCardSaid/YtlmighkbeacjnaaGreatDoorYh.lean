/- pool: one under way; frames are taken, a call may be. pool: put, back. pool: units that write frames back. pool: seal. pool: flush. pool: flush, the walk. -/
import Derived.Test.YtlmighkbeacjnaaGreatDoorLm5
import Derived.Test.YtlmighkbeacjnaaGreatDoorYg
import Derived.Test.YtlmighkbeacjnaaGreatDoorYe
import Derived.Test.YtlmighkbeacjnaaGreatDoorLm13
import Derived.Test.YtlmighkbeacjnaaGreatDoorP5
import Derived.Test.YtlmighkbeacjnaaGreatDoorYj

open Go Go.Lg
set_option linter.unusedSimpArgs false
set_option linter.unusedVariables false
set_option maxHeartbeats 4000000
set_option maxRecDepth 20000
namespace Go.Proofs.YtlmighkbeacjnaaGreatDoor
theorem tkQ4 : TOK Tryz.prog (tyOf Tryz.prog) := tok Tryz.prog
def tfQ40 := PLift.up (aI ty3 <| aI ty4 <| aI ty5 <| aI ty23 <| aI ty24 <| aI ty26 <| aI ty27 <| aI ty28 <| aI ty34 <| aI ty36 <| aI ty58 <| aI ty72 <| aI ty74 <| aI ty79 <| Tryz.results60)
/-- A client's call. -/
structure Ca where
  k : Int
  p : Int
  d : List UInt8
def Ca.cells (x : Ca) : List AV := [.int .u8 x.k, .int .i64 x.p, .view (byteRows x.d)]
/-- What comes of a call. -/
structure Po where
  f : Fs
  q : List Un
  e : Int
  d : List UInt8
  w : Int
  s : Bool
def Po.cells (p : Po) : List AV := [.view (frRows p.f.l), .int .i64 p.f.h, .view (unRows p.q), .int .i64 p.e, .view (byteRows p.d), .int .i64 p.w, .bool p.s]
/-- The memory of one under way. -/
def plC (c : Cf) (cl : Int) (p : Po) : List AV := [.int .i64 c.p, .int .i64 c.z, .int .i64 c.f, .int .i64 c.s, .int .i64 c.st, .int .i64 c.fr, .int .i64 c.cl, .int .i64 c.q, .int .i64 c.t, .int .i64 cl, .view (frRows p.f.l), .int .i64 p.f.h, .view (unRows p.q), .int .i64 p.e, .view (byteRows p.d), .int .i64 p.w, .bool p.s]
def errV (e : Int) : AV := if e = 0 then .nilIface else .iface 34 (.int .i64 e)
theorem ca_pur (x : Ca) : ∀ y, y ∈ x.cells → Pur y := by
  intro y hy
  simp only [Ca.cells, List.mem_cons, List.not_mem_nil, or_false] at hy
  rcases hy with rfl | rfl | rfl
  · exact .int _ _
  · exact .int _ _
  · exact byteRows_pur _
theorem pl_pur (c : Cf) (cl : Int) (p : Po) : ∀ y, y ∈ plC c cl p → Pur y := by
  intro y hy
  simp only [plC, List.mem_cons, List.not_mem_nil, or_false] at hy
  rcases hy with rfl | rfl | rfl | rfl | rfl | rfl | rfl | rfl | rfl | rfl | rfl | rfl | rfl | rfl | rfl | rfl | rfl <;> first | exact .int _ _ | exact .bool _ | exact frRows_pur _ | exact unRows_pur _ | exact byteRows_pur _
theorem ac60 (c : Cf) (cl : Int) (p : Po) (g : Fs) (e : Int) (H : Heap) (n L : Nat) (hL : H L = some (.cells (plC c cl p) 79)) :
    AC Tryz.prog 60 [.ptr L 0, .agg g.cells, .int .i64 e] H n (fun r H' n' => r = .ret (errV e) ∧ H' = (if e = 0 then upd H L (some (.cells (plC c cl { p with f := g }) 79)) else H) ∧ n' = n) := by
  refine ac_of_w Tryz.func60 (c := _) rfl (Nat.le_of_ble_eq_true rfl) ?_
  rw [show Tryz.f60.ntmps = 16 from rfl]
  have hgv : Pur (.vptr g.cells) := .vptr (fs_pur g)
  simp only [plC] at hL
  by_cases he : e = 0
  · have c1 : (e != 0) = false := by simp [he]
    have tE := aI uU <| aI hL <| aI c1 <| aI Fs.cells.eq_1 <| tfQ40.down; repeat' first | (refine Red.h ?_) | ((with_reducible first | apply wz tkQ4 | apply wr_z tkQ4); exact zZ; decide) | ((with_reducible first | apply w_store tkQ4); exact zV; exact zV; exact zS) | ((with_reducible first | apply w_iff'); exact zV; exact zU) | ((with_reducible apply w_ret); (repeat refine Red.h ?_); (with_reducible first | apply donef_ret tkQ4 | apply doneA_ret tkQ4); exact zT; exact zD) | fail
    all_goals try clear tE
    refine ⟨by rw [errV, if_pos he]; rfl, by rw [if_pos he]; rfl, rfl⟩
  · have c1 : (e != 0) = true := by simp [he]
    have tE := aI uU <| aI hL <| aI c1 <| aI Fs.cells.eq_1 <| tfQ40.down; repeat' first | (refine Red.h ?_) | ((with_reducible first | apply wz tkQ4 | apply wr_z tkQ4); exact zZ; decide) | ((with_reducible first | apply w_ift'); exact zV; exact zU) | ((with_reducible apply w_ret); (repeat refine Red.h ?_); (with_reducible first | apply donef_ret tkQ4 | apply doneA_ret tkQ4); exact zT; exact zD) | fail
    all_goals try clear tE
    refine ⟨by rw [errV, if_neg he]; rfl, by rw [if_neg he], rfl⟩
end Go.Proofs.YtlmighkbeacjnaaGreatDoor


open Go Go.Lg
set_option linter.unusedSimpArgs false
set_option linter.unusedVariables false
set_option maxHeartbeats 4000000
set_option maxRecDepth 20000
namespace Go.Proofs.YtlmighkbeacjnaaGreatDoor
theorem tkQ5 : TOK Tryz.prog (tyOf Tryz.prog) := tok Tryz.prog
def tfQ50 := PLift.up (aI ty3 <| aI ty5 <| aI ty23 <| aI ty28 <| aI ty30 <| aI ty34 <| Tryz.results17)
def tfQ51 := PLift.up (aI ty3 <| aI ty4 <| aI ty5 <| aI ty23 <| aI ty24 <| aI ty26 <| aI ty27 <| aI ty28 <| aI ty34 <| aI ty36 <| aI ty58 <| aI ty72 <| aI ty74 <| aI ty79 <| Tryz.results93)
theorem pf17 (c : Cf) (x : Ca) : PF Tryz.prog 17 [.agg c.cells, .agg x.cells] (fun r => r = .int .i64 (if c.good = true then (if 1 ≤ x.k ∧ x.k ≤ 6 ∧ (x.d.length : Int) = (if x.k = 3 then c.z else 0) then 0 else 2) else 8)) := by
  have h47 := pf47 c
  refine pf_of_w0 Tryz.func17 (c := _) rfl rfl (Nat.le_of_ble_eq_true rfl) (args_2 (cf_pur c) (.agg (ca_pur x))) ?_
  rw [show Tryz.f17.ntmps = 29 from rfl]
  cases hg : c.good with
  | false =>
    have ee : c.err = 8 := by simp [Cf.err, hg]
    have tE := aI uU <| aI Cf.cells.eq_1 <| aI Ca.cells.eq_1 <| aI ee <| tfQ50.down; repeat' first | (refine Red.h ?_) | ((with_reducible first | apply wz tkQ5 | apply wr_z tkQ5); exact zZ; decide) | ((with_reducible first | apply wcall' | apply wr_call); exact zV; exact zVs; exact zAs; (focus (with_unfolding_all first | exact h47)); decide) | ((with_reducible first | apply w_ift'); exact zV; exact zU) | ((with_reducible apply w_ret); (repeat refine Red.h ?_); (with_reducible apply done_ret tkQ5); exact zT; exact zD; exact zX) | fail
    all_goals try clear tE
    rfl
  | true =>
    have ee : c.err = 0 := by simp [Cf.err, hg]
    have tE := aI uU <| aI Cf.cells.eq_1 <| aI Ca.cells.eq_1 <| aI ee <| aI byteRows_len <| tfQ50.down; repeat' first | (refine Red.h ?_) | ((with_reducible first | apply blk_off); decide) | ((with_reducible first | apply wz tkQ5 | apply wr_z tkQ5); exact zZ; decide) | ((with_reducible first | apply wcall' | apply wr_call); exact zV; exact zVs; exact zAs; (focus (with_unfolding_all first | exact h47)); decide) | ((with_reducible first | apply w_iff'); exact zV; exact zU) | ((with_reducible first | apply w_if); exact zV; constructor <;> intro _) | ((with_reducible apply w_ret); (repeat refine Red.h ?_); (with_reducible apply done_ret tkQ5); exact zT; exact zD; exact zX) | fail
    all_goals try clear tE
    all_goals first | (simp_all [tup]; done) | (simp_all [tup]; omega)
theorem ac93 (c : Cf) (cl : Int) (p : Po) (m : List Un) (H : Heap) (n L : Nat) (hL : H L = some (.cells (plC c cl p) 79)) (hq : p.q.length ≤ 1000) (hm : m.length ≤ 1000) (hdq : ∀ u, u ∈ p.q → u.d.length ≤ 1000000) (hdm : ∀ u, u ∈ m → u.d.length ≤ 1000000) :
    AC Tryz.prog 93 [.ptr L 0, .view (unRows m)] H n (fun r H' n' => r = .ret (errV (putE c p.q m)) ∧ H' = (if putE c p.q m = 0 then upd H L (some (.cells (plC c cl { p with q := putU c p.q m, w := (putU c p.q m).length }) 79)) else H) ∧ n' = n) := by
  have h132 := pf132 c p.q m hq hm hdq hdm
  refine ac_of_w Tryz.func93 (c := _) rfl (Nat.le_of_ble_eq_true rfl) ?_
  rw [show Tryz.f93.ntmps = 36 from rfl]
  simp only [plC] at hL
  simp only [Cf.cells] at h132
  generalize putE c p.q m = e at h132 ⊢
  generalize putU c p.q m = u at h132 ⊢
  by_cases he : e = 0
  · have c1 : (e != 0) = false := by simp [he]
    have tE := aI uU <| aI hL <| aI c1 <| aI unRows_len <| tfQ51.down; repeat' first | (refine Red.h ?_) | ((with_reducible apply w_live (lvAt [[0, 1], [0, 1], [0, 5, 6], [6], [0, 5], []])); (focus (simp only [lvAt_zero, lvAt_succ]; rfl)); exact zLv) | ((with_reducible first | apply wz tkQ5 | apply wr_z tkQ5); exact zZ; decide) | ((with_reducible first | apply w_store tkQ5); exact zV; exact zV; exact zS) | ((with_reducible first | apply wcall' | apply wr_call); exact zV; exact zVs; exact zAs; (focus (with_unfolding_all first | exact h132)); decide) | ((with_reducible first | apply w_iff'); exact zV; exact zU) | ((with_reducible first | apply w_draw0 mixed); (focus (decide +kernel))) | ((with_reducible apply w_ret); (repeat refine Red.h ?_); (with_reducible first | apply donef_ret tkQ5 | apply doneA_ret tkQ5); exact zT; exact zD) | fail
    all_goals try clear tE
    refine ⟨by rw [errV, if_pos he]; rfl, by rw [if_pos he]; rfl, rfl⟩
  · have c1 : (e != 0) = true := by simp [he]
    have tE := aI uU <| aI hL <| aI c1 <| aI unRows_len <| tfQ51.down; repeat' first | (refine Red.h ?_) | ((with_reducible apply w_live (lvAt [[0, 1], [0, 1], [0, 5, 6], [6], [0, 5], []])); (focus (simp only [lvAt_zero, lvAt_succ]; rfl)); exact zLv) | ((with_reducible first | apply wz tkQ5 | apply wr_z tkQ5); exact zZ; decide) | ((with_reducible first | apply wcall' | apply wr_call); exact zV; exact zVs; exact zAs; (focus (with_unfolding_all first | exact h132)); decide) | ((with_reducible first | apply w_ift'); exact zV; exact zU) | ((with_reducible first | apply w_draw0 mixed); (focus (decide +kernel))) | ((with_reducible apply w_ret); (repeat refine Red.h ?_); (with_reducible first | apply donef_ret tkQ5 | apply doneA_ret tkQ5); exact zT; exact zD) | fail
    all_goals try clear tE
    refine ⟨by rw [errV, if_neg he]; rfl, by rw [if_neg he], rfl⟩
end Go.Proofs.YtlmighkbeacjnaaGreatDoor


open Go Go.Lg
set_option linter.unusedSimpArgs false
set_option linter.unusedVariables false
set_option maxHeartbeats 4000000
set_option maxRecDepth 20000
namespace Go.Proofs.YtlmighkbeacjnaaGreatDoor
theorem tkQ6 : TOK Tryz.prog (tyOf Tryz.prog) := tok Tryz.prog
def tfQ60 := PLift.up (aI ty3 <| aI ty5 <| aI ty27 <| aI ty28 <| aI ty58 <| aI ty72 <| aI ty77 <| Tryz.results94)
theorem ac133 (c : Cf) (cl : Int) (p : Po) (a : Nat) (x : Fr) (H : Heap) (n L b : Nat) (hL : H L = some (.cells (plC c cl p) 79)) (hb : H b = some (.cells [.ptr L 0] 77)) (hLn : L < n) (hbn : b < n) (hx : p.f.l[a]? = some x) (hd : x.d.length ≤ 1000000) :
    AC Tryz.prog 133 [.int .i64 (a : Int), .ptr b 0] H n (fun r H' n' => r = .ret (.agg (Un.cells ⟨2, x.p, a, x.d⟩)) ∧ H' = H ∧ n' = n) := by
  have h42 := pf42 x.d hd
  have hr := fr_row hx
  have hal := (List.getElem?_eq_some_iff.1 hx).1
  have c0 : (0 ≤ (a : Int)) = True := by simp
  have c1 : ((a : Int) < (p.f.l.length : Int)) = True := by simp; omega
  refine ac_normP (.agg (un_pur _)) (ac_of_w Tryz.func133 (c := _) rfl (Nat.le_of_ble_eq_true rfl) ?_)
  rw [show Tryz.f133.ntmps = 21 from rfl]
  simp only [plC] at hL
  have q1 : (L == n) = false := by rw [beq_eq_false_iff_ne]; omega
  have q2 : (L == n + 1) = false := by rw [beq_eq_false_iff_ne]; omega
  have q3 : (b == n) = false := by rw [beq_eq_false_iff_ne]; omega
  have q4 : (n == n + 1) = false := by rw [beq_eq_false_iff_ne]; omega
  have q5 : (n + 1 == n) = false := by rw [beq_eq_false_iff_ne]; omega
  have tE := aI uU <| aI hL <| aI hb <| aI hr <| aI c0 <| aI c1 <| aI q1 <| aI q2 <| aI q3 <| aI q4 <| aI q5 <| aI frRows_len <| aI Fr.cells.eq_1 <| aI ty3 <| aI ty4 <| aI ty5 <| aI ty23 <| aI ty24 <| aI ty26 <| aI ty27 <| aI ty28 <| aI ty34 <| aI ty36 <| aI ty58 <| aI ty72 <| aI ty74 <| aI ty77 <| aI ty79 <| Tryz.results133; repeat' first | (refine Red.h ?_) | ((with_reducible apply w_live (lvAt [[0, 1], [0, 1, 3], [0, 3, 4]])); (focus (simp only [lvAt_zero, lvAt_succ]; rfl)); exact zLv) | ((with_reducible first | apply wz tkQ6 | apply wr_z tkQ6); exact zZ; decide) | ((with_reducible first | apply w_alloc tkQ6); exact zT; decide) | ((with_reducible first | apply w_store tkQ6); exact zV; exact zV; exact zS) | ((with_reducible first | apply fm_nil | apply fm_cons)) | ((with_reducible apply m_next); exact zU) | ((with_reducible apply m_nil0); exact zU) | ((with_reducible first | apply m_v tkQ6); exact zU; exact zZ; decide) | ((with_reducible first | apply m_xA tkQ6); exact zU; exact zI; decide) | ((with_reducible first | apply m_x tkQ6); exact zU; (focus (decide +kernel)); exact zZ; decide) | ((with_reducible first | apply m_chg0); exact zU; (focus ((with_reducible apply c_store tkQ6); exact zV; exact zV; exact zS))) | ((with_reducible first | apply m_call); exact zU; exact zV; exact zVs; exact zAs; (focus (with_unfolding_all first | exact h42)); decide) | ((with_reducible apply w_drawN (id := 2) [7] [([7], [0, 1, 2, 3, 4, 5, 6, 7])] mixed); (focus (decide +kernel))) | ((with_reducible apply w_ret); (repeat refine Red.h ?_); (with_reducible first | apply donef_ret tkQ6 | apply doneA_ret tkQ6); exact zT; exact zD) | fail
  all_goals try clear tE
  refine ⟨_, rfl, .pur (.agg (un_pur ⟨2, x.p, a, x.d⟩)), fun id hid => ?_⟩
  rw [upd_ne _ _ (by omega), upd_ne _ _ (by omega), upd_ne _ _ (by omega)]
/-- The unit that writes a frame back. -/
def backU (l : List Fr) (a : Nat) : Un := match l[a]? with
  | some x => ⟨2, x.p, a, x.d⟩
  | none => ⟨2, 0, a, []⟩
/-- A list of units that grows: nothing yet, or an own slice. -/
def unA (us : List Un) (o : Nat) : AV := match us with
  | [] => .empty
  | _ :: _ => .slice o 0 us.length none 4
structure UnI (us : List Un) (o n0 : Nat) (H H0 : Heap) (k : Nat) : Prop where
  blk : us ≠ [] → n0 ≤ o ∧ o < k ∧ H o = some (.cells (unRows us).flatten 58)
  old : ∀ id, id < n0 → H id = H0 id
  le : n0 ≤ k
theorem unI_new {H H0 : Heap} {k n0 o : Nat} {x : Un} (h : UnI [] o n0 H H0 k) : UnI [x] k n0 (upd H k (some (.cells [x.cells].flatten 58))) H0 (k + 1) :=
  ⟨fun _ => ⟨h.le, by omega, by rw [upd_same]; rfl⟩, fun id hid => by have := h.le; rw [upd_ne _ _ (by omega)]; exact h.old id hid, by have := h.le; omega⟩
theorem unI_more {H H0 : Heap} {k n0 o : Nat} {x : Un} {us : List Un} (h : UnI us o n0 H H0 k) (hne : us ≠ []) : UnI (us ++ [x]) k n0 (upd (upd H o none) k (some (.cells ((unRows us).flatten ++ [x.cells].flatten) 58))) H0 (k + 1) :=
  ⟨fun _ => ⟨h.le, by omega, by rw [upd_same]; simp [unRows]⟩, fun id hid => by have := h.le; have := (h.blk hne).1; rw [upd_ne _ _ (by omega), upd_ne _ _ (by omega)]; exact h.old id hid, by have := h.le; omega⟩
theorem unA_one (x : Un) (k : Nat) : unA [x] k = .slice k 0 1 none 4 := rfl
theorem unA_more (d x : Un) (ds : List Un) (k : Nat) : unA (d :: ds ++ [x]) k = .slice k 0 (ds.length + 1 + 1) none 4 := by simp [unA]
def natI (ds : List Nat) : List Int := ds.map fun a : Nat => (a : Int)
theorem natI_len (ds : List Nat) : (natI ds).length = ds.length := by simp [natI]
theorem natI_at {ds : List Nat} {i a : Nat} (h : ds[i]? = some a) : (intRows (natI ds))[i]? = some [.int .i64 (a : Int)] := int_row (by simp [natI, h])
theorem ac94 (c : Cf) (cl : Int) (p : Po) (ds : List Nat) (H : Heap) (n L : Nat) (hL : H L = some (.cells (plC c cl p) 79)) (hLn : L < n) (hds : ds.length ≤ 1000000) (ha : ∀ a, a ∈ ds → a < p.f.l.length) (hd : ∀ x, x ∈ p.f.l → x.d.length ≤ 1000000) :
    AC Tryz.prog 94 [.ptr L 0, .view (intRows (natI ds))] H n (fun r H' n' => r = .ret (.view (unRows (ds.map (backU p.f.l)))) ∧ H' = H ∧ n' = n) := by
  refine ac_normP (unRows_pur _) (ac_of_w Tryz.func94 (c := _) rfl (Nat.le_of_ble_eq_true rfl) ?_)
  rw [show Tryz.f94.ntmps = 23 from rfl]
  have hdv := intRows_pur (natI ds)
  have hlen := natI_len ds
  have tE := aI uU <| aI intRows_len <| aI hlen <| tfQ60.down; repeat' first | (refine Red.h ?_) | ((with_reducible apply l_box (d := 2)); exact zV; exact zU; decide) | ((with_reducible first | apply wz tkQ6 | apply wr_z tkQ6); exact zZ; decide) | fail
  all_goals try clear tE
  refine w_loopP (S := Nat × Nat) (fun s => [(4, unA ((ds.take s.1).map (backU p.f.l)) s.2), (5, .func (.func 133) [] [.ptr n 0]), (9, .view (intRows (natI ds))), (10, .int .i64 (ds.length : Int)), (11, .int .i64 (s.1 : Int))]) [] (fun s H' k => s.1 ≤ ds.length ∧ UnI ((ds.take s.1).map (backU p.f.l)) s.2 (n + 1) H' (upd H n (some (.cells [.ptr L 0] 77))) k) (fun s => ds.length - s.1) (0, 0) ?_ rfl ?_ ?_
  · (have tE := aI uU <| aI unA.eq_1 <| @List.map_nil Nat Un (backU p.f.l); simp only [fitsT, List.take_zero, List.length_nil, sp_cons, sp_nil, upd_b, Nat.reduceBEq, cond_true, cond_false, args0_zero, args0_succ, args0_nil, tE]; repeat' first | exact trivial | apply aI | exact Sub.refl _ | exact Sub.cap)
  · exact ⟨Nat.zero_le _, ⟨fun h => absurd rfl h, fun _ _ => rfl, Nat.le_refl _⟩⟩
  · rintro ⟨i, o⟩ H' k ⟨hi, hb⟩
    simp only at hi hb
    have hw : IntKind.i64.wrap ((i : Int) + 1) = ((i + 1 : Nat) : Int) := by rw [wrap64 (by omega) (by omega)]; rfl
    have g0 : (0 ≤ (i : Int)) = True := by simp
    have hk := hb.le
    by_cases e : i < ds.length
    · have g1 : ((i : Int) < (ds.length : Int)) = True := by simp; omega
      obtain ⟨a, hu⟩ : ∃ a, ds[i]? = some a := ⟨ds[i], List.getElem?_eq_getElem e⟩
      have hr := natI_at hu
      have hal := ha a (List.mem_of_getElem? hu)
      obtain ⟨x, hx⟩ : ∃ x, p.f.l[a]? = some x := ⟨p.f.l[a], List.getElem?_eq_getElem hal⟩
      have hbu : backU p.f.l a = ⟨2, x.p, a, x.d⟩ := by simp only [backU, hx]
      have ht : (ds.take (i + 1)).map (backU p.f.l) = (ds.take i).map (backU p.f.l) ++ [⟨2, x.p, a, x.d⟩] := by rw [List.take_add_one, hu]; simp [hbu]
      have e0 : H' L = some (.cells (plC c cl p) 79) := by rw [hb.old L (by omega), upd_ne _ _ (by omega)]; exact hL
      have e1 : H' n = some (.cells [.ptr L 0] 77) := by rw [hb.old n (by omega), upd_same]
      have h133 := ac133 c cl p a x H' k L n e0 e1 (by omega) (by omega) hx (hd x (List.mem_of_getElem? hx))
      have hlu : ((ds.take i).map (backU p.f.l)).length = i := by rw [List.length_map, List.length_take]; omega
      generalize (ds.take i).map (backU p.f.l) = us at hb ht hlu
      simp only [Un.cells] at h133
      cases us with
      | nil =>
        have tE := aI uU <| aI g1 <| aI g0 <| aI hr <| aI hw <| aI unA.eq_1 <| aI intRows_len <| aI hlen <| tfQ60.down; repeat' first | (refine Red.h ?_) | ((with_reducible first | apply wz tkQ6 | apply wr_z tkQ6); exact zZ; decide) | ((with_reducible first | apply w_ap | apply wr_ap); (focus (first | (intro _ ho _ hr _; (with_reducible apply ap_new tkQ6 ho (hr := hr)); exact zT; exact zU; exact zT; exact zT; exact zU; exact zA; exact zV; exact zK; exact zM; exact zK; exact zK; decide) | (intro _ ho _ hr _; (with_reducible apply ap_own tkQ6 ho (hr := hr)); exact zT; exact zU; exact zT; exact zT; exact zU; exact zV; exact zV; exact zH; exact zKo; exact zM; (focus (first | rfl | assumption)); exact zKo; exact zKo; decide))); decide) | ((with_reducible first | apply wp | apply wr_p); (focus (first | ((with_reducible first | apply pure_bs1 tkQ6); exact zT; exact zU; exact zT; exact zP; exact zR; exact zC; decide; decide; exact zU; exact zU))); decide) | ((with_reducible first | apply wacall'); exact zV; exact zVs; exact zAs; (focus (first | exact ⟨_, Tryz.func133, rfl, rfl⟩)); (focus (with_unfolding_all first | exact h133)); decide) | ((with_reducible first | apply w_ift'); exact zV; exact zU) | fail
        all_goals try clear tE
        have hds := unA_one ⟨2, x.p, a, x.d⟩ k
        refine ⟨(i + 1, k), by simp only; omega, ⟨by simp only; omega, by rw [ht]; exact unI_new hb⟩, rfl, ?_⟩
        simp only [ht, List.nil_append]
        (have tE := aI uU <| aI hw <| hds; simp only [fitsT, List.take_zero, List.length_nil, sp_cons, sp_nil, upd_b, Nat.reduceBEq, cond_true, cond_false, args0_zero, args0_succ, args0_nil, tE]; repeat' first | exact trivial | apply aI | exact Sub.refl _ | exact Sub.cap)
      | cons u us =>
        rw [List.length_cons] at hlu
        have hbl := (hb.blk (by simp)).2.2
        have hfl : (unRows (u :: us)).flatten.length = (us.length + 1) * 4 := by rw [unFlat_len, List.length_cons]
        have q1 : (o == k) = false := by have := (hb.blk (by simp)).2.1; rw [beq_eq_false_iff_ne]; omega
        have tE := aI uU <| aI g1 <| aI g0 <| aI hr <| aI hw <| aI unA.eq_2 <| aI hbl <| aI hfl <| aI q1 <| aI intRows_len <| aI hlen <| tfQ60.down; repeat' first | (refine Red.h ?_) | ((with_reducible first | apply wz tkQ6 | apply wr_z tkQ6); exact zZ; decide) | ((with_reducible first | apply w_ap | apply wr_ap); (focus (first | (intro _ ho _ hr _; (with_reducible apply ap_new tkQ6 ho (hr := hr)); exact zT; exact zU; exact zT; exact zT; exact zU; exact zA; exact zV; exact zK; exact zM; exact zK; exact zK; decide) | (intro _ ho _ hr _; (with_reducible apply ap_own tkQ6 ho (hr := hr)); exact zT; exact zU; exact zT; exact zT; exact zU; exact zV; exact zV; exact zH; exact zKo; exact zM; (focus (first | rfl | assumption)); exact zKo; exact zKo; decide))); decide) | ((with_reducible first | apply wp | apply wr_p); (focus (first | ((with_reducible first | apply pure_bs1 tkQ6); exact zT; exact zU; exact zT; exact zP; exact zR; exact zC; decide; decide; exact zU; exact zU))); decide) | ((with_reducible first | apply wacall'); exact zV; exact zVs; exact zAs; (focus (first | exact ⟨_, Tryz.func133, rfl, rfl⟩)); (focus (with_unfolding_all first | exact h133)); decide) | ((with_reducible first | apply w_ift'); exact zV; exact zU) | fail
        all_goals try clear tE
        have hds := unA_more u ⟨2, x.p, a, x.d⟩ us k
        refine ⟨(i + 1, k), by simp only; omega, ⟨by simp only; omega, by rw [ht]; exact unI_more hb (by simp)⟩, rfl, ?_⟩
        simp only [ht]
        (have tE := aI uU <| aI hw <| hds; simp only [fitsT, List.take_zero, List.length_nil, sp_cons, sp_nil, upd_b, Nat.reduceBEq, cond_true, cond_false, args0_zero, args0_succ, args0_nil, tE]; repeat' first | exact trivial | apply aI | exact Sub.refl _ | exact Sub.cap)
    · have g1 : ((i : Int) < (ds.length : Int)) = False := by simp; omega
      have ei : i = ds.length := by omega
      subst ei
      rw [List.take_length] at hb ⊢
      have tE := aI uU <| aI g1 <| tfQ60.down; repeat' first | (refine Red.h ?_) | ((with_reducible first | apply wz tkQ6 | apply wr_z tkQ6); exact zZ; decide) | ((with_reducible first | apply w_iff'); exact zV; exact zU) | ((with_reducible apply w_ret); (repeat refine Red.h ?_); (with_reducible first | apply donef_ret tkQ6 | apply doneA_ret tkQ6); exact zT; exact zD) | fail
      all_goals try clear tE
      generalize ds.map (backU p.f.l) = us at hb ⊢
      refine ⟨_, rfl, ?_, fun id hid => by rw [hb.old id (by omega), upd_ne _ _ (by omega)]⟩
      cases us with
      | nil => exact .nothing
      | cons u us =>
        obtain ⟨h1, h2, h3⟩ := hb.blk (by simp)
        have hc : cutH n H' o = some (.cells (unRows (u :: us)).flatten 58) := by rw [cutH, if_neg (by omega)]; exact h3
        exact fz_rowsL (by rw [unRows_len]) (unRows_row _) (unRows_pur _) hc
end Go.Proofs.YtlmighkbeacjnaaGreatDoor


open Go Go.Lg
set_option linter.unusedSimpArgs false
set_option linter.unusedVariables false
set_option maxHeartbeats 4000000
set_option maxRecDepth 20000
namespace Go.Proofs.YtlmighkbeacjnaaGreatDoor
theorem tkQ7 : TOK Tryz.prog (tyOf Tryz.prog) := tok Tryz.prog
def tfQ70 := PLift.up (aI ty3 <| aI ty9 <| aI ty72 <| Tryz.results98)
def tfQ71 := PLift.up (aI ty3 <| aI ty4 <| aI ty5 <| aI ty23 <| aI ty24 <| aI ty26 <| aI ty27 <| aI ty28 <| aI ty34 <| aI ty36 <| aI ty58 <| aI ty72 <| aI ty74 <| aI ty79 <| Tryz.results57)
theorem pf96 (l : List Fr) (g : FuncId) (cap : List AV) (T : Fr → Bool) (hl : l.length ≤ 1000000) (hcap : ∀ x, x ∈ cap → Pur x) (hg : ∀ u, u ∈ l → PF Tryz.prog g (.agg u.cells :: cap) (fun r => r = .bool (T u))) :
    PF Tryz.prog 96 [.view (frRows l), .func (.func g) [] cap] (fun r => r = .bool (l.any T)) := by
  have hfp : Pur (.func (.func g) [] cap) := .func (fun x hx => by cases hx) hcap
  refine pf_of_w0 Tryz.func96 (c := _) rfl rfl (Nat.le_of_ble_eq_true rfl) (args_2 (frRows_pur l) hfp) ?_
  rw [show Tryz.f96.ntmps = 9 from rfl]
  have hany := fidx_any T l 0
  have tE := aI uU <| aI hany <| aI ty3 <| Tryz.results96; repeat' first | (refine Red.h ?_) | ((with_reducible first | apply wz tkQ7 | apply wr_z tkQ7); exact zZ; decide) | ((with_reducible first | apply wcall' | apply wr_call); exact zV; exact zVs; exact zAs; (focus (with_unfolding_all first | exact pf135 l g cap T hl hcap hg)); decide) | ((with_reducible apply w_ret); (repeat refine Red.h ?_); (with_reducible apply done_ret tkQ7); exact zT; exact zD; exact zX) | fail
  all_goals try clear tE
  simp only [tup, Bool.decide_eq_true]
theorem max_any (l : List Int) : ∀ x : Int, decide (l.foldl max x > 0) = ((x :: l).any fun n => decide (n > 0)) := by
  induction l with
  | nil => intro x; simp
  | cons y l ih =>
    intro x
    rw [List.foldl_cons, ih]
    simp only [List.any_cons]
    rw [← Bool.or_assoc]
    congr 1
    rw [Bool.eq_iff_iff]; simp only [decide_eq_true_eq, Bool.or_eq_true]; omega
theorem max_take {l : List Int} {j : Nat} {y x : Int} (h : l[j]? = some y) : (l.take (j + 1)).foldl max x = max ((l.take j).foldl max x) y := by
  rw [List.take_add_one, h, List.foldl_append]; rfl
theorem pf98 (x : Int) (l : List Int) (hl : l.length ≤ 1000000) : PF Tryz.prog 98 [.view (intRows (x :: l))] (fun r => r = .int .i64 (l.foldl max x)) := by
  refine pf_of_w0 Tryz.func98 (c := _) rfl rfl (Nat.le_of_ble_eq_true rfl) (args_1 (intRows_pur _)) ?_
  rw [show Tryz.f98.ntmps = 25 from rfl]
  have hlen : (intRows (x :: l)).length = l.length + 1 := by rw [intRows_len, List.length_cons]
  have g1 : (((l.length + 1 : Nat) : Int) < 1) = False := by simp; omega
  have g2 : ((0 : Int) < ((l.length + 1 : Nat) : Int)) = True := eq_true (by omega)
  have hr0 : (intRows (x :: l))[0]? = some [.int .i64 x] := rfl
  have hv := intRows_pur (x :: l)
  have tE := aI uU <| aI hlen <| aI g1 <| aI g2 <| aI hr0 <| tfQ70.down; repeat' first | (refine Red.h ?_) | ((with_reducible first | apply wz tkQ7 | apply wr_z tkQ7); exact zZ; decide) | ((with_reducible first | apply w_iff'); exact zV; exact zU) | fail
  all_goals try clear tE
  refine w_loopS (S := Nat) (fun j => [(0, .view (intRows (x :: l))), (3, .int .i64 ((l.take j).foldl max x)), (4, .int .i64 ((j + 1 : Nat) : Int))]) (fun _ => []) [] (fun j => j ≤ l.length) (fun j => l.length - j) 0 ?_ (Nat.zero_le _) ?_
  · (have tu0 : Pur _ := intRows_pur (x :: l); have tE := uU; exact kcanS [])
  · rintro j hj
    simp only [St.ofS, List.length_nil]
    have hw : IntKind.i64.wrap (((j + 1 : Nat) : Int) + 1) = ((j + 1 + 1 : Nat) : Int) := by rw [wrap64 (by omega) (by omega)]; rfl
    by_cases e : j < l.length
    · have h1 : (((j + 1 : Nat) : Int) < ((l.length + 1 : Nat) : Int)) = True := by simp; omega
      have h0 : (0 ≤ ((j + 1 : Nat) : Int)) = True := by simp; omega
      obtain ⟨u, hu⟩ : ∃ u, l[j]? = some u := ⟨l[j], List.getElem?_eq_getElem e⟩
      have hr : (intRows (x :: l))[j + 1]? = some [.int .i64 u] := int_row (by simpa using hu)
      have hf := max_take (x := x) hu
      have hf : List.foldl max x (List.take (j + 1) l) = if u > List.foldl max x (List.take j l) then u else List.foldl max x (List.take j l) := by rw [hf]; split <;> omega
      have tE := aI uU <| aI h1 <| aI h0 <| aI hr <| aI hw <| aI hlen <| tfQ70.down; repeat' first | (refine Red.h ?_) | ((with_reducible first | apply wz tkQ7 | apply wr_z tkQ7); exact zZ; decide) | ((with_reducible first | apply wp | apply wr_p); (focus (first | ((with_reducible first | apply pure_max); exact zV; exact zV) | ((with_reducible first | apply pure_bs1 tkQ7); exact zT; exact zU; exact zT; exact zP; exact zR; exact zC; decide; decide; exact zU; exact zU))); decide) | ((with_reducible first | apply w_ift'); exact zV; exact zU) | fail
      all_goals try clear tE
      refine ⟨j + 1, by omega, by omega, ?_⟩
      rw [hf]
      (have tu0 : Pur _ := intRows_pur (x :: l); have tE := uU; exact kcanS [])
    · have h1 : (((j + 1 : Nat) : Int) < ((l.length + 1 : Nat) : Int)) = False := by simp; omega
      obtain rfl : j = l.length := by omega
      have tE := aI uU <| aI h1 <| aI hlen <| tfQ70.down; repeat' first | (refine Red.h ?_) | ((with_reducible first | apply wz tkQ7 | apply wr_z tkQ7); exact zZ; decide) | ((with_reducible first | apply w_iff'); exact zV; exact zU) | ((with_reducible apply w_ret); (repeat refine Red.h ?_); (with_reducible apply done_ret tkQ7); exact zT; exact zD; exact zX) | fail
      all_goals try clear tE
      rw [List.take_length]; rfl
theorem pf97 (x : Fr) (hl : x.pins.length ≤ 1000000) (h0 : 0 < x.pins.length) : PF Tryz.prog 97 [.agg x.cells] (fun r => r = .bool (pinned x)) := by
  obtain ⟨n, ns, hp⟩ : ∃ n ns, x.pins = n :: ns := by
    cases h : x.pins with
    | nil => rw [h] at h0; cases h0
    | cons n ns => exact ⟨n, ns, rfl⟩
  have h98 := pf98 n ns (by rw [hp] at hl; simp at hl; omega)
  refine pf_of_w0 Tryz.func97 (c := _) rfl rfl (Nat.le_of_ble_eq_true rfl) (args_1 (fra_pur x)) ?_
  rw [show Tryz.f97.ntmps = 7 from rfl]
  have tE := aI uU <| aI Fr.cells.eq_1 <| aI hp <| aI ty3 <| aI ty4 <| aI ty5 <| aI ty28 <| aI ty72 <| aI ty74 <| Tryz.results97; repeat' first | (refine Red.h ?_) | ((with_reducible first | apply wz tkQ7 | apply wr_z tkQ7); exact zZ; decide) | ((with_reducible first | apply wcall' | apply wr_call); exact zV; exact zVs; exact zAs; (focus (with_unfolding_all first | exact h98)); decide) | ((with_reducible apply w_ret); (repeat refine Red.h ?_); (with_reducible apply done_ret tkQ7); exact zT; exact zD; exact zX) | fail
  all_goals try clear tE
  simp only [tup]
  rw [max_any, pinned, hp]
theorem ac57 (c : Cf) (cl : Int) (p : Po) (H : Heap) (n L : Nat) (hL : H L = some (.cells (plC c cl p) 79)) (hok : okF c p.f = true) (hl : p.f.l.length ≤ 1000000) (hpl : ∀ x, x ∈ p.f.l → x.pins.length ≤ 1000000) (hcl : 1 ≤ c.cl) :
    AC Tryz.prog 57 [.ptr L 0] H n (fun r H' n' => r = .ret (errV (if (p.f.l.any pinned) = true then 260 else if p.q.length > 0 ∨ (dirtyL p.f.l 0).length > 0 then 230 else 0)) ∧
      H' = (if (p.f.l.any pinned) = true then H else if p.q.length > 0 ∨ (dirtyL p.f.l 0).length > 0 then H else upd H L (some (.cells (plC c cl { p with s := true }) 79))) ∧ n' = n) := by
  have h92 := (nf92 c p.f hl hpl).pf
  rw [dirtyF, if_pos hok] at h92
  have h96 := pf96 p.f.l 97 [] pinned hl (fun x hx => by cases hx) (fun u hu => pf97 u (hpl u hu) (by
    obtain ⟨i, hi, rfl⟩ := List.getElem_of_mem hu
    have := (may_pins (okF_may hok (List.getElem?_eq_getElem hi))).1
    omega))
  refine ac_of_w Tryz.func57 (c := _) rfl (Nat.le_of_ble_eq_true rfl) ?_
  rw [show Tryz.f57.ntmps = 37 from rfl]
  simp only [plC] at hL
  simp only [Cf.cells, Fs.cells] at h92
  cases hp : p.f.l.any pinned with
  | true =>
    rw [hp] at h96
    have tE := aI uU <| aI hL <| tfQ71.down; repeat' first | (refine Red.h ?_) | ((with_reducible first | apply wz tkQ7 | apply wr_z tkQ7); exact zZ; decide) | ((with_reducible first | apply wcall' | apply wr_call); exact zV; exact zVs; exact zAs; (focus (with_unfolding_all first | exact h96)); decide) | ((with_reducible first | apply w_ift'); exact zV; exact zU) | ((with_reducible apply w_ret); (repeat refine Red.h ?_); (with_reducible first | apply donef_ret tkQ7 | apply doneA_ret tkQ7); exact zT; exact zD) | fail
    all_goals try clear tE
    exact ⟨rfl, rfl, rfl⟩
  | false =>
    rw [hp] at h96
    by_cases hq : p.q.length > 0
    · have g1 : ((p.q.length : Int) > 0) = True := eq_true (by omega)
      have tE := aI uU <| aI hL <| aI g1 <| aI unRows_len <| tfQ71.down; repeat' first | (refine Red.h ?_) | ((with_reducible apply w_live (lvAt [[0], [0], [], [0], [], [0], []])); (focus (simp only [lvAt_zero, lvAt_succ]; rfl)); exact zLv) | ((with_reducible first | apply wz tkQ7 | apply wr_z tkQ7); exact zZ; decide) | ((with_reducible first | apply wskip' | apply wr_skip); exact zU; exact zL; exact zU; decide) | ((with_reducible first | apply wcall' | apply wr_call); exact zV; exact zVs; exact zAs; (focus (with_unfolding_all first | exact h96 | exact h92)); decide) | ((with_reducible first | apply w_ift'); exact zV; exact zU) | ((with_reducible first | apply w_iff'); exact zV; exact zU) | ((with_reducible first | apply w_draw0 mixed); (focus (decide +kernel))) | ((with_reducible apply w_ret); (repeat refine Red.h ?_); (with_reducible first | apply donef_ret tkQ7 | apply doneA_ret tkQ7); exact zT; exact zD) | fail
      all_goals try clear tE
      simp [hq, errV, tup]
    · have g1 : ((p.q.length : Int) > 0) = False := eq_false (by omega)
      by_cases hd : (dirtyL p.f.l 0).length > 0
      · have g2 : (((dirtyL p.f.l 0).length : Int) > 0) = True := eq_true (by omega)
        have tE := aI uU <| aI hL <| aI g1 <| aI g2 <| aI unRows_len <| aI intRows_len <| tfQ71.down; repeat' first | (refine Red.h ?_) | ((with_reducible apply w_live (lvAt [[0], [0], [], [0], [], [0], []])); (focus (simp only [lvAt_zero, lvAt_succ]; rfl)); exact zLv) | ((with_reducible first | apply wz tkQ7 | apply wr_z tkQ7); exact zZ; decide) | ((with_reducible first | apply wzg tkQ7 | apply wr_zg tkQ7); exact zU; exact zL; exact zU; exact zZ; decide) | ((with_reducible first | apply wcall' | apply wr_call); exact zV; exact zVs; exact zAs; (focus (with_unfolding_all first | exact h96 | exact h92)); decide) | ((with_reducible first | apply wcallg' | apply wr_callg); exact zU; exact zL; exact zU; exact zV; exact zVs; exact zAs; (focus (with_unfolding_all first | exact h96 | exact h92)); decide) | ((with_reducible first | apply w_ift'); exact zV; exact zU) | ((with_reducible first | apply w_iff'); exact zV; exact zU) | ((with_reducible first | apply w_draw0 mixed); (focus (decide +kernel))) | ((with_reducible apply w_ret); (repeat refine Red.h ?_); (with_reducible first | apply donef_ret tkQ7 | apply doneA_ret tkQ7); exact zT; exact zD) | fail
        all_goals try clear tE
        simp [hq, hd, errV, tup]
      · have g2 : (((dirtyL p.f.l 0).length : Int) > 0) = False := eq_false (by omega)
        have tE := aI uU <| aI hL <| aI g1 <| aI g2 <| aI unRows_len <| aI intRows_len <| tfQ71.down; repeat' first | (refine Red.h ?_) | ((with_reducible apply w_live (lvAt [[0], [0], [], [0], [], [0], []])); (focus (simp only [lvAt_zero, lvAt_succ]; rfl)); exact zLv) | ((with_reducible first | apply wz tkQ7 | apply wr_z tkQ7); exact zZ; decide) | ((with_reducible first | apply wzg tkQ7 | apply wr_zg tkQ7); exact zU; exact zL; exact zU; exact zZ; decide) | ((with_reducible first | apply w_store tkQ7); exact zV; exact zV; exact zS) | ((with_reducible first | apply wcall' | apply wr_call); exact zV; exact zVs; exact zAs; (focus (with_unfolding_all first | exact h96 | exact h92)); decide) | ((with_reducible first | apply wcallg' | apply wr_callg); exact zU; exact zL; exact zU; exact zV; exact zVs; exact zAs; (focus (with_unfolding_all first | exact h96 | exact h92)); decide) | ((with_reducible first | apply w_iff'); exact zV; exact zU) | ((with_reducible first | apply w_draw0 mixed); (focus (decide +kernel))) | ((with_reducible apply w_ret); (repeat refine Red.h ?_); (with_reducible first | apply donef_ret tkQ7 | apply doneA_ret tkQ7); exact zT; exact zD) | fail
        all_goals try clear tE
        simp [hq, hd, errV, tup]
        rfl
end Go.Proofs.YtlmighkbeacjnaaGreatDoor


open Go Go.Lg
set_option linter.unusedSimpArgs false
set_option linter.unusedVariables false
set_option maxHeartbeats 4000000
set_option maxRecDepth 20000
namespace Go.Proofs.YtlmighkbeacjnaaGreatDoor
/-- Dirty frames' places. -/
def dirtyN : List Fr → Nat → List Nat
  | [], _ => []
  | x :: l, i => if x.dt = true then i :: dirtyN l (i + 1) else dirtyN l (i + 1)
theorem dirtyL_nat : ∀ (l : List Fr) (i : Nat), dirtyL l i = natI (dirtyN l i)
  | [], _ => rfl
  | x :: l, i => by
    rw [dirtyL, dirtyN, dirtyL_nat l (i + 1)]
    split <;> rfl
theorem dirtyN_mem {a : Nat} : ∀ {l : List Fr} {i : Nat}, a ∈ dirtyN l i ↔ ∃ (j : Nat) (x : Fr), l[j]? = some x ∧ x.dt = true ∧ a = i + j
  | [], i => by simp [dirtyN]
  | y :: l, i => by
    have ih := dirtyN_mem (a := a) (l := l) (i := i + 1)
    rw [dirtyN]
    constructor
    · intro h
      split at h
      · rename_i hd
        rcases List.mem_cons.1 h with rfl | h
        · exact ⟨0, y, rfl, hd, rfl⟩
        · obtain ⟨j, x, h1, h2, h3⟩ := ih.1 h
          exact ⟨j + 1, x, by simpa using h1, h2, by omega⟩
      · obtain ⟨j, x, h1, h2, h3⟩ := ih.1 h
        exact ⟨j + 1, x, by simpa using h1, h2, by omega⟩
    · rintro ⟨j, x, h1, h2, h3⟩
      cases j with
      | zero =>
        simp at h1; subst h1
        rw [if_pos h2, h3]; exact List.mem_cons_self
      | succ j =>
        have := ih.2 ⟨j, x, by simpa using h1, h2, by omega⟩
        split
        · exact List.mem_cons_of_mem _ this
        · exact this
theorem dirtyN_lt : ∀ (l : List Fr) (i : Nat), (dirtyN l i).Pairwise (· < ·)
  | [], _ => .nil
  | x :: l, i => by
    rw [dirtyN]
    split
    · refine .cons (fun a ha => ?_) (dirtyN_lt l (i + 1))
      obtain ⟨j, _, _, _, h⟩ := dirtyN_mem.1 ha
      omega
    · exact dirtyN_lt l (i + 1)
theorem dirtyN_len (l : List Fr) (i : Nat) : (dirtyN l i).length ≤ l.length := by
  have := dirtyL_len l i
  rwa [dirtyL_nat, natI_len] at this
theorem backs_pre : ∀ (l pre : List Fr), (dirtyN l pre.length).map (backU (pre ++ l)) = backL l pre.length
  | [], _ => rfl
  | x :: l, pre => by
    have ih := backs_pre l (pre ++ [x])
    rw [List.append_assoc, List.singleton_append, List.length_append, List.length_singleton] at ih
    rw [dirtyN, backL]
    split
    · rw [List.map_cons, ih]
      congr 1
      simp [backU]
    · exact ih
theorem backs_eq (l : List Fr) : (dirtyN l 0).map (backU l) = backL l 0 := backs_pre l []
theorem backL_len (l : List Fr) : (backL l 0).length ≤ l.length := by rw [← backs_eq, List.length_map]; exact dirtyN_len l 0
/-- One frame is clean. -/
def clS (m : List Fr) (a : Nat) : List Fr := match m[a]? with
  | some x => m.set a (cleanV x)
  | none => m
theorem clS_get (m : List Fr) (a j : Nat) : (clS m a)[j]? = if j = a then m[j]?.map cleanV else m[j]? := by
  by_cases e : j = a
  · subst e
    rw [if_pos rfl]
    cases h : m[j]? with
    | none => simp only [clS, h]; rfl
    | some x => simp only [clS, h]; rw [set_at h]; rfl
  · rw [if_neg e]
    cases h : m[a]? with
    | none => simp only [clS, h]
    | some x => simp only [clS, h]; exact List.getElem?_set_ne (by omega)
theorem cl_get : ∀ (ds : List Nat) (m : List Fr) (j : Nat), (ds.foldl clS m)[j]? = if j ∈ ds then m[j]?.map cleanV else m[j]?
  | [], m, j => by simp
  | a :: ds, m, j => by
    rw [List.foldl_cons, cl_get ds, clS_get]
    by_cases h1 : j = a
    · subst h1
      rw [if_pos rfl, if_pos (List.mem_cons_self)]
      split
      · cases m[j]? <;> rfl
      · rfl
    · rw [if_neg h1]
      by_cases h2 : j ∈ ds
      · rw [if_pos h2, if_pos (List.mem_cons_of_mem _ h2)]
      · rw [if_neg h2, if_neg (fun h => by rcases List.mem_cons.1 h with h | h; exact h1 h; exact h2 h)]
theorem cl_all (l : List Fr) : (dirtyN l 0).foldl clS l = l.map cleanV := by
  refine List.ext_getElem? fun j => ?_
  rw [cl_get, List.getElem?_map]
  split
  · rfl
  · rename_i h
    cases hx : l[j]? with
    | none => rfl
    | some x =>
      have : x.dt = false := by
        cases hd : x.dt with
        | false => rfl
        | true => exact absurd (dirtyN_mem.2 ⟨j, x, hx, hd, by omega⟩) h
      rw [Option.map_some, cleanV]
      obtain ⟨a, b, c, d, e, f⟩ := x
      simp at this; subst this; rfl
structure FlI (c : Cf) (cl : Int) (p : Po) (n L i : Nat) (H' H : Heap) : Prop where
  blk : H' L = some (.cells (plC c cl { p with f := ⟨((dirtyN p.f.l 0).take i).foldl clS p.f.l, p.f.h⟩ }) 79)
  old : ∀ id, id < n → id ≠ L → H' id = H id
  ok : okF c ⟨((dirtyN p.f.l 0).take i).foldl clS p.f.l, p.f.h⟩ = true
/-- What flush does. -/
def flushR (c : Cf) (p : Po) : Po × Int := if putE c p.q (backL p.f.l 0) = 0 then ({ p with f := ⟨p.f.l.map cleanV, p.f.h⟩, q := putU c p.q (backL p.f.l 0), w := (putU c p.q (backL p.f.l 0)).length }, 0) else (p, putE c p.q (backL p.f.l 0))
theorem fl_step {c : Cf} {l : List Fr} {h : Int} {i a : Nat} (ha : (dirtyN l 0)[i]? = some a) (hok : okF c ⟨((dirtyN l 0).take i).foldl clS l, h⟩ = true) :
    ∃ u, (((dirtyN l 0).take i).foldl clS l)[a]? = some u ∧ turnE c ⟨((dirtyN l 0).take i).foldl clS l, h⟩ (a : Int) cleanE = 0 ∧ turnF c ⟨((dirtyN l 0).take i).foldl clS l, h⟩ (a : Int) cleanE cleanV = ⟨((dirtyN l 0).take (i + 1)).foldl clS l, h⟩ ∧ okF c ⟨((dirtyN l 0).take (i + 1)).foldl clS l, h⟩ = true := by
  obtain ⟨j, x, hx, hd, rfl⟩ := dirtyN_mem.1 (List.mem_of_getElem? ha)
  rw [Nat.zero_add] at ha ⊢
  have hn : j ∉ (dirtyN l 0).take i := fun hm => by
    obtain ⟨k, hk, e⟩ := List.getElem_of_mem hm
    have hp := dirtyN_lt l 0
    rw [List.length_take] at hk
    have hil := (List.getElem?_eq_some_iff.1 ha).1
    rw [List.pairwise_iff_getElem] at hp
    have := hp k i (by omega) hil (by omega)
    rw [List.getElem_take] at e
    rw [(List.getElem?_eq_some_iff.1 ha).2, e] at this
    omega
  have hu : (((dirtyN l 0).take i).foldl clS l)[j]? = some x := by rw [cl_get, if_neg hn]; exact hx
  have hlt := (List.getElem?_eq_some_iff.1 hu).1
  have hE : turnE c ⟨((dirtyN l 0).take i).foldl clS l, h⟩ (j : Int) cleanE = 0 := by
    unfold turnE
    rw [if_pos hok, if_neg (by simp only; omega), Int.toNat_natCast, hu]
    simp [cleanE, hd]
  have hF : turnF c ⟨((dirtyN l 0).take i).foldl clS l, h⟩ (j : Int) cleanE cleanV = ⟨((dirtyN l 0).take (i + 1)).foldl clS l, h⟩ := by
    unfold turnF
    rw [if_pos hE, Int.toNat_natCast, hu]
    rw [List.take_add_one, ha, List.foldl_append]
    simp only [Option.toList_some, List.foldl_cons, List.foldl_nil, clS, hu]
  refine ⟨x, hu, hE, hF, ?_⟩
  obtain ⟨a', u', v', h1, h2, h3, h4⟩ := (stay_clean c ⟨((dirtyN l 0).take i).foldl clS l, h⟩ (j : Int)).good hE
  rwa [hF] at h4
end Go.Proofs.YtlmighkbeacjnaaGreatDoor


open Go Go.Lg
set_option linter.unusedSimpArgs false
set_option linter.unusedVariables false
set_option maxHeartbeats 4000000
set_option maxRecDepth 20000
namespace Go.Proofs.YtlmighkbeacjnaaGreatDoor
theorem tkQ9 : TOK Tryz.prog (tyOf Tryz.prog) := tok Tryz.prog
def tfQ90 := PLift.up (aI ty3 <| aI ty4 <| aI ty5 <| aI ty23 <| aI ty24 <| aI ty26 <| aI ty27 <| aI ty28 <| aI ty34 <| aI ty36 <| aI ty58 <| aI ty72 <| aI ty74 <| aI ty79 <| aI ty81 <| Tryz.results56)
theorem cl_len (ds : List Nat) : ∀ m : List Fr, (ds.foldl clS m).length = m.length := by
  induction ds with
  | nil => intro m; rfl
  | cons a ds ih =>
    intro m
    rw [List.foldl_cons, ih]
    unfold clS
    split
    · exact List.length_set
    · rfl
theorem cl_small {ds : List Nat} {l : List Fr} {N : Nat} (h : ∀ x, x ∈ l → x.d.length ≤ N ∧ x.pins.length ≤ N) : ∀ x, x ∈ ds.foldl clS l → x.d.length ≤ N ∧ x.pins.length ≤ N := by
  intro x hx
  obtain ⟨j, hj, rfl⟩ := List.getElem_of_mem hx
  have hg := List.getElem?_eq_getElem hj
  rw [cl_get] at hg
  have hjl : j < l.length := by rwa [cl_len] at hj
  have := h l[j] (List.getElem_mem hjl)
  rw [List.getElem?_eq_getElem hjl] at hg
  split at hg
  · simp only [Option.map_some, Option.some.injEq] at hg
    rw [← hg]; exact this
  · simp only [Option.some.injEq] at hg
    rw [← hg]; exact this
theorem backL_small {l : List Fr} {N : Nat} (h : ∀ x, x ∈ l → x.d.length ≤ N) : ∀ u, u ∈ backL l 0 → u.d.length ≤ N := by
  intro u hu
  obtain ⟨j, x, hx, _, rfl⟩ := backL_mem.1 hu
  exact h x (List.mem_of_getElem? hx)
theorem ac60_ok (c : Cf) (cl : Int) (p : Po) (g : Fs) (H : Heap) (n L : Nat) (hL : H L = some (.cells (plC c cl p) 79)) :
    AC Tryz.prog 60 [.ptr L 0, .agg g.cells, .int .i64 0] H n (fun r H' n' => r = .ret .nilIface ∧ H' = upd H L (some (.cells (plC c cl { p with f := g }) 79)) ∧ n' = n) := ac60 c cl p g 0 H n L hL
theorem ac93_ok (c : Cf) (cl : Int) (p : Po) (m : List Un) (H : Heap) (n L : Nat) (hL : H L = some (.cells (plC c cl p) 79)) (hq : p.q.length ≤ 1000) (hm : m.length ≤ 1000) (hdq : ∀ u, u ∈ p.q → u.d.length ≤ 1000000) (hdm : ∀ u, u ∈ m → u.d.length ≤ 1000000) (he : putE c p.q m = 0) :
    AC Tryz.prog 93 [.ptr L 0, .view (unRows m)] H n (fun r H' n' => r = .ret .nilIface ∧ H' = upd H L (some (.cells (plC c cl { p with q := putU c p.q m, w := (putU c p.q m).length }) 79)) ∧ n' = n) := by
  have := ac93 c cl p m H n L hL hq hm hdq hdm
  rw [he] at this; exact this
theorem ac93_bad (c : Cf) (cl : Int) (p : Po) (m : List Un) (H : Heap) (n L : Nat) (hL : H L = some (.cells (plC c cl p) 79)) (hq : p.q.length ≤ 1000) (hm : m.length ≤ 1000) (hdq : ∀ u, u ∈ p.q → u.d.length ≤ 1000000) (hdm : ∀ u, u ∈ m → u.d.length ≤ 1000000) (he : putE c p.q m ≠ 0) :
    AC Tryz.prog 93 [.ptr L 0, .view (unRows m)] H n (fun r H' n' => r = .ret (.iface 34 (.int .i64 (putE c p.q m))) ∧ H' = H ∧ n' = n) := by
  have := ac93 c cl p m H n L hL hq hm hdq hdm
  rw [errV, if_neg he, if_neg he] at this; exact this
theorem dirtyN_in (l : List Fr) : ∀ a, a ∈ dirtyN l 0 → a < l.length := fun a ha => by
  obtain ⟨j, x, hx, _, rfl⟩ := dirtyN_mem.1 ha
  have := (List.getElem?_eq_some_iff.1 hx).1
  omega
theorem ac56_bad (c : Cf) (cl : Int) (p : Po) (H : Heap) (n L : Nat) (hL : H L = some (.cells (plC c cl p) 79)) (hLn : L < n) (hok : okF c p.f = true) (hl : p.f.l.length ≤ 1000) (hd : ∀ x, x ∈ p.f.l → x.d.length ≤ 1000000 ∧ x.pins.length ≤ 1000000) (hq : p.q.length ≤ 1000) (hdq : ∀ u, u ∈ p.q → u.d.length ≤ 1000000) (he : putE c p.q (backL p.f.l 0) ≠ 0) :
    AC Tryz.prog 56 [.ptr L 0] H n (fun r H' n' => r = .ret (.iface 34 (.int .i64 (putE c p.q (backL p.f.l 0)))) ∧ H' = H ∧ n' = n) := by
  have h92 := (nf92 c p.f (by omega) (fun x hx => (hd x hx).2)).pf
  rw [dirtyF, if_pos hok, dirtyL_nat] at h92
  have hdl := dirtyN_len p.f.l 0
  have h94 := ac94 c cl p (dirtyN p.f.l 0) H n L hL hLn (by omega) (dirtyN_in p.f.l) (fun x hx => (hd x hx).1)
  rw [backs_eq] at h94
  have hbl := backL_len p.f.l
  have h93 := ac93_bad c cl p (backL p.f.l 0) H n L hL hq (by omega) hdq (backL_small fun x hx => (hd x hx).1) he
  refine ac_of_w Tryz.func56 (c := _) rfl (Nat.le_of_ble_eq_true rfl) ?_
  rw [show Tryz.f56.ntmps = 51 from rfl]
  simp only [plC] at hL
  simp only [Cf.cells, Fs.cells] at h92
  have hdv := intRows_pur (natI (dirtyN p.f.l 0))
  have tE := aI uU <| aI hL <| tfQ90.down; repeat' first | (refine Red.h ?_) | ((with_reducible apply w_live (lvAt [[0], [0], [0, 3], [0, 3, 4], [4], [0, 3], [0, 26, 27, 28], [0, 26, 27, 28], [0, 6, 26, 27, 28], [0, 7, 26, 27, 28], [7], [0, 26, 27, 28], []])); (focus (simp only [lvAt_zero, lvAt_succ]; rfl)); exact zLv) | ((with_reducible first | apply wz tkQ9 | apply wr_z tkQ9); exact zZ; decide) | ((with_reducible first | apply wcall' | apply wr_call); exact zV; exact zVs; exact zAs; (focus (with_unfolding_all first | exact h92)); decide) | ((with_reducible first | apply wacall'); exact zV; exact zVs; exact zAs; (focus (first | exact ⟨_, Tryz.func93, rfl, rfl⟩ | exact ⟨_, Tryz.func94, rfl, rfl⟩)); (focus (with_unfolding_all first | exact h94 | exact h93)); decide) | ((with_reducible first | apply w_ift'); exact zV; exact zU) | ((with_reducible first | apply w_draw0 mixed); (focus (decide +kernel))) | ((with_reducible apply w_ret); (repeat refine Red.h ?_); (with_reducible first | apply donef_ret tkQ9 | apply doneA_ret tkQ9); exact zT; exact zD) | fail
  all_goals try clear tE
  exact ⟨rfl, rfl, rfl⟩
theorem ac56_ok (c : Cf) (cl : Int) (p : Po) (H : Heap) (n L : Nat) (hL : H L = some (.cells (plC c cl p) 79)) (hLn : L < n) (hok : okF c p.f = true) (hl : p.f.l.length ≤ 1000) (hd : ∀ x, x ∈ p.f.l → x.d.length ≤ 1000000 ∧ x.pins.length ≤ 1000000) (hq : p.q.length ≤ 1000) (hdq : ∀ u, u ∈ p.q → u.d.length ≤ 1000000) (he : putE c p.q (backL p.f.l 0) = 0) :
    AC Tryz.prog 56 [.ptr L 0] H n (fun r H' n' => r = .ret .nilIface ∧ H' = upd H L (some (.cells (plC c cl { p with f := ⟨p.f.l.map cleanV, p.f.h⟩, q := putU c p.q (backL p.f.l 0), w := (putU c p.q (backL p.f.l 0)).length }) 79)) ∧ n' = n) := by
  have h92 := (nf92 c p.f (by omega) (fun x hx => (hd x hx).2)).pf
  rw [dirtyF, if_pos hok, dirtyL_nat] at h92
  have hdl := dirtyN_len p.f.l 0
  have h94 := ac94 c cl p (dirtyN p.f.l 0) H n L hL hLn (by omega) (dirtyN_in p.f.l) (fun x hx => (hd x hx).1)
  rw [backs_eq] at h94
  have hbl := backL_len p.f.l
  have h93 := ac93_ok c cl p (backL p.f.l 0) H n L hL hq (by omega) hdq (backL_small fun x hx => (hd x hx).1) he
  refine ac_normQ .nilIface (by rw [hL]; simp) (pl_pur c cl _) (ac_of_w Tryz.func56 (c := _) rfl (Nat.le_of_ble_eq_true rfl) ?_)
  rw [show Tryz.f56.ntmps = 51 from rfl]
  have hL0 := hL
  simp only [plC] at hL
  simp only [Cf.cells, Fs.cells] at h92
  have hdv := intRows_pur (natI (dirtyN p.f.l 0))
  have hlen := natI_len (dirtyN p.f.l 0)
  generalize hP : ({ p with q := putU c p.q (backL p.f.l 0), w := (putU c p.q (backL p.f.l 0)).length } : Po) = p1 at h93
  have hf1 : p1.f = p.f := by rw [← hP]
  have hR : ({ p with f := ⟨p.f.l.map cleanV, p.f.h⟩, q := putU c p.q (backL p.f.l 0), w := (putU c p.q (backL p.f.l 0)).length } : Po) = { p1 with f := ⟨p.f.l.map cleanV, p.f.h⟩ } := by rw [← hP]
  rw [hR]
  have tE := aI uU <| aI hL <| aI intRows_len <| aI hlen <| tfQ90.down; repeat' first | (refine Red.h ?_) | ((with_reducible apply w_live (lvAt [[0], [0], [0, 3], [0, 3, 4], [4], [0, 3], [0, 26, 27, 28], [0, 26, 27, 28], [0, 6, 26, 27, 28], [0, 7, 26, 27, 28], [7], [0, 26, 27, 28], []])); (focus (simp only [lvAt_zero, lvAt_succ]; rfl)); exact zLv) | ((with_reducible first | apply wz tkQ9 | apply wr_z tkQ9); exact zZ; decide) | ((with_reducible first | apply wcall' | apply wr_call); exact zV; exact zVs; exact zAs; (focus (with_unfolding_all first | exact h92)); decide) | ((with_reducible first | apply wp | apply wr_p); (focus (first | ((with_reducible first | apply p_inil tkQ9 | apply p_innil tkQ9); exact zT; exact zU; exact zV; exact zU))); decide) | ((with_reducible first | apply wacall'); exact zV; exact zVs; exact zAs; (focus (first | exact ⟨_, Tryz.func93, rfl, rfl⟩ | exact ⟨_, Tryz.func94, rfl, rfl⟩)); (focus (with_unfolding_all first | exact h94 | exact h93)); decide) | ((with_reducible first | apply w_iff'); exact zV; exact zU) | ((with_reducible first | apply w_draw0 mixed); (focus (decide +kernel))) | fail
  all_goals try clear tE
  refine w_loopP (S := Nat) (fun i => [(0, .ptr L 0), (26, .view (intRows (natI (dirtyN p.f.l 0)))), (27, .int .i64 ((dirtyN p.f.l 0).length : Int)), (28, .int .i64 (i : Int))]) [] (fun i H' k => i ≤ (dirtyN p.f.l 0).length ∧ FlI c cl p1 n L i H' H ∧ k = n) (fun i => (dirtyN p.f.l 0).length - i) 0 ?_ rfl ?_ ?_
  · (have tE := aI uU <| hlen; simp only [fitsT, List.take_zero, List.length_nil, sp_cons, sp_nil, upd_b, Nat.reduceBEq, cond_true, cond_false, args0_zero, args0_succ, args0_nil, tE]; repeat' first | exact trivial | apply aI | exact Sub.refl _ | exact Sub.cap)
  · refine ⟨Nat.zero_le _, ⟨?_, fun id _ h => upd_ne _ _ h, ?_⟩, rfl⟩
    · show upd H L _ L = _
      rw [upd_same]; rfl
    · rw [hf1]; exact hok
  · rintro i H' k ⟨hi, hI, rfl⟩
    have hw : IntKind.i64.wrap ((i : Int) + 1) = ((i + 1 : Nat) : Int) := by rw [wrap64 (by omega) (by omega)]; rfl
    have g0 : (0 ≤ (i : Int)) = True := by simp
    have e0 := hI.blk
    have hko := hI.ok
    rw [hf1] at e0 hko
    by_cases e : i < (dirtyN p.f.l 0).length
    · have g1 : ((i : Int) < ((dirtyN p.f.l 0).length : Int)) = True := eq_true (by omega)
      obtain ⟨a, hu⟩ : ∃ a, (dirtyN p.f.l 0)[i]? = some a := ⟨_, List.getElem?_eq_getElem e⟩
      have hr := natI_at hu
      obtain ⟨u, s1, s2, s3, s4⟩ := fl_step (h := p.f.h) hu hko
      have h95 := (nf95 c ⟨((dirtyN p.f.l 0).take i).foldl clS p.f.l, p.f.h⟩ (a : Int) (by simp only [cl_len]; omega) (cl_small hd)).pf
      rw [s2, s3] at h95
      have h60 := ac60_ok c cl _ ⟨((dirtyN p.f.l 0).take (i + 1)).foldl clS p.f.l, p.f.h⟩ H' k L e0
      simp only [plC] at e0
      simp only [Cf.cells, Fs.cells] at h95 h60
      have g2 := cl_len ((dirtyN p.f.l 0).take i) p.f.l
      generalize ((dirtyN p.f.l 0).take i).foldl clS p.f.l = m at e0 h95 h60 g2
      have tE := aI uU <| aI e0 <| aI g1 <| aI g0 <| aI hr <| aI hw <| aI intRows_len <| aI hlen <| tfQ90.down; repeat' first | (refine Red.h ?_) | ((with_reducible apply w_live (lvAt [[0], [0], [0, 3], [0, 3, 4], [4], [0, 3], [0, 26, 27, 28], [0, 26, 27, 28], [0, 6, 26, 27, 28], [0, 7, 26, 27, 28], [7], [0, 26, 27, 28], []])); (focus (simp only [lvAt_zero, lvAt_succ]; rfl)); exact zLv) | ((with_reducible first | apply wz tkQ9 | apply wr_z tkQ9); exact zZ; decide) | ((with_reducible first | apply wp | apply wr_p); (focus (first | ((with_reducible first | apply p_inil tkQ9 | apply p_innil tkQ9); exact zT; exact zU; exact zV; exact zU))); decide) | ((with_reducible first | apply m_calle); exact zU; exact zV; exact zVs; exact zAs; (focus (first | exact ⟨_, Tryz.func60, rfl, rfl⟩)); (focus (with_unfolding_all first | exact h60)); decide) | ((with_reducible first | apply w_ift'); exact zV; exact zU) | ((with_reducible first | apply w_iff'); exact zV; exact zU) | ((with_reducible first | apply fm_nil | apply fm_cons)) | ((with_reducible apply m_next); exact zU) | ((with_reducible apply m_nil0); exact zU) | ((with_reducible first | apply m_v tkQ9); exact zU; exact zZ; decide) | ((with_reducible first | apply m_x tkQ9); exact zU; (focus (decide +kernel)); exact zZ; decide) | ((with_reducible first | apply m_call); exact zU; exact zV; exact zVs; exact zAs; (focus (with_unfolding_all first | exact h95)); decide) | ((with_reducible apply w_drawN (id := 8) [14] [([14], [0, 1, 2, 3, 4, 5, 6, 7, 8, 9, 10, 11, 12, 13, 14, 15])] mixed); (focus (decide +kernel))) | fail
      all_goals try clear tE
      refine ⟨i + 1, by omega, ⟨by omega, ⟨by rw [hf1]; exact upd_same _ _ _, fun id h1 h2 => by show upd H' L _ id = _; rw [upd_ne _ _ h2]; exact hI.old id h1 h2, by rw [hf1]; exact s4⟩, rfl⟩, rfl, ?_⟩
      (have tE := aI uU <| aI hw <| hlen; simp only [fitsT, List.take_zero, List.length_nil, sp_cons, sp_nil, upd_b, Nat.reduceBEq, cond_true, cond_false, args0_zero, args0_succ, args0_nil, tE]; repeat' first | exact trivial | apply aI | exact Sub.refl _ | exact Sub.cap)
    · have g1 : ((i : Int) < ((dirtyN p.f.l 0).length : Int)) = False := eq_false (by omega)
      obtain rfl : i = (dirtyN p.f.l 0).length := by omega
      rw [List.take_length, cl_all] at e0
      have tE := aI uU <| aI g1 <| tfQ90.down; repeat' first | (refine Red.h ?_) | ((with_reducible first | apply wz tkQ9 | apply wr_z tkQ9); exact zZ; decide) | ((with_reducible first | apply w_iff'); exact zV; exact zU) | ((with_reducible apply w_ret); (repeat refine Red.h ?_); (with_reducible first | apply donef_ret tkQ9 | apply doneA_ret tkQ9); exact zT; exact zD) | fail
      all_goals try clear tE
      exact ⟨_, rfl, .pur .nilIface, e0, hI.old⟩
end Go.Proofs.YtlmighkbeacjnaaGreatDoor


