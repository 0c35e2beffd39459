/- Free frames: New, and the reference's. -/
import Derived.Test.YtlmighkbeacjnaaGreatDoorLm5
import Derived.Test.YtlmighkbeacjnaaGreatDoorYj
open Go Go.Lg
set_option linter.unusedSimpArgs false
set_option linter.unusedVariables false
set_option maxHeartbeats 4000000
set_option maxRecDepth 20000
namespace Go.Proofs.YtlmighkbeacjnaaGreatDoor
theorem tkHA : TOK Tryz.prog (tyOf Tryz.prog) := tok Tryz.prog
def tfHA0 := PLift.up (aI ty3 <| aI ty4 <| aI ty5 <| aI ty23 <| aI ty24 <| aI ty26 <| aI ty28 <| aI ty34 <| aI ty72 <| aI ty74 <| Tryz.results52)
def freeFr (n : Nat) : Fr := ⟨0, 0, [], List.replicate n 0, false, false⟩
def newF (c : Cf) : Fs := if c.good = true then ⟨List.replicate c.fr.toNat (freeFr c.cl.toNat), 0⟩ else ⟨[], 0⟩
def newE (c : Cf) : Int := if c.good = true then 0 else 8
theorem zeros_own {H : Heap} {S : Nat → Prop} {id n : Nat} {e : TypeId} (hS : S id) (hH : H id = some (.cells (List.replicate n [AV.int .i64 (Int.ofNat 0)]).flatten e)) : Own H S (.slice id 0 n (some n) 1) (.view (intRows (List.replicate n 0))) := by
  have hrl : (List.replicate n [AV.int .i64 (Int.ofNat 0)]).flatten.length = n := by simp
  have h := ints_mk (H := H) (S := S) (id := id) (off := 0) (cap := some n) (ns := List.replicate n 0) hS hH (by rw [hrl, List.length_replicate]; omega) (fun i v hv => by
    rw [List.getElem?_replicate] at hv
    split at hv
    · rename_i hi; cases hv
      have := flat_at (sz := 1) (rows := List.replicate n [AV.int .i64 (Int.ofNat 0)]) (fun r hr => by rw [List.eq_of_mem_replicate hr]; rfl) (i := i) (j := 0) (r := [AV.int .i64 (Int.ofNat 0)]) (by rw [List.getElem?_replicate, if_pos hi]) (by decide)
      simpa using this
    · cases hv)
  rw [List.length_replicate] at h
  exact h
structure NwI (f : Fs) (i o : Nat) (m : List (AV × AV)) (H : Heap) (k : Nat) : Prop where
  le : i ≤ f.l.length
  len : m.length = i
  h0 : H 0 = some (.cells [outT i o, .int .i64 f.h] 26)
  h2 : 0 < i → 1 ≤ o ∧ o < k ∧ H o = some (.cells (oRows (f.l.take i) m).flatten 74)
  k2 : 1 ≤ k
  own : ∀ (j : Nat) u ab, f.l[j]? = some u → m[j]? = some ab → OwnAB H (fun x => 1 ≤ x ∧ x ≠ o) u ab
  top : ∀ id, k ≤ id → H id = none
theorem nw_step {f : Fs} {i o : Nat} {m : List (AV × AV)} {H X : Heap} {Z : Option Blk} {k : Nat} {u : Fr} {ab : AV × AV} (hI : NwI f i o m H k) (hu : f.l[i]? = some u) (ho1 : OwnAB (upd H k Z) (fun x => x = k) u ab)
    (hX : ∀ id, id ≠ o ∨ i = 0 → X id = upd H k Z id) :
    NwI f (i + 1) (k + 1) (m ++ [ab]) (upd (upd X (k + 1) (some (.cells (oRows (f.l.take (i + 1)) (m ++ [ab])).flatten 74))) 0 (some (.cells [.slice (k + 1) 0 (i + 1) none 6, .int .i64 f.h] 26))) (k + 2) := by
  obtain ⟨hi, hm, e0, e2, hk, hown, htop⟩ := hI
  have hil := (List.getElem?_eq_some_iff.1 hu).1
  have no : ∀ id, k ≤ id → id ≠ o ∨ i = 0 := fun id hid => by
    rcases Nat.eq_zero_or_pos i with h | h
    · exact .inr h
    · have := (e2 h).2.1; exact .inl (by omega)
  have keep : ∀ id b, 1 ≤ id ∧ id ≠ o → H id = some b → (1 ≤ id ∧ id ≠ k + 1) ∧ upd (upd X (k + 1) (some (.cells (oRows (f.l.take (i + 1)) (m ++ [ab])).flatten 74))) 0 (some (.cells [.slice (k + 1) 0 (i + 1) none 6, .int .i64 f.h] 26)) id = some b := fun id b h3 hb => by
    have : id < k := by
      rcases Nat.lt_or_ge id k with h | h
      · exact h
      · rw [htop id h] at hb; cases hb
    refine ⟨⟨h3.1, by omega⟩, ?_⟩
    rw [upd_ne _ _ (by omega), upd_ne _ _ (by omega), hX id (.inl h3.2), upd_ne _ _ (by omega)]; exact hb
  have keep2 : ∀ id b, id = k → upd H k Z id = some b → (1 ≤ id ∧ id ≠ k + 1) ∧ upd (upd X (k + 1) (some (.cells (oRows (f.l.take (i + 1)) (m ++ [ab])).flatten 74))) 0 (some (.cells [.slice (k + 1) 0 (i + 1) none 6, .int .i64 f.h] 26)) id = some b := fun id b h3 hb => by
    refine ⟨⟨by omega, by omega⟩, ?_⟩
    rw [upd_ne _ _ (by omega), upd_ne _ _ (by omega), hX id (no id (by omega))]; exact hb
  refine ⟨by omega, by simp [hm], ?_, fun _ => ⟨by omega, by omega, ?_⟩, by omega, fun j v w hv hw => ?_, fun id hid => ?_⟩
  · rw [upd_same]; simp [outT]
  · rw [upd_ne _ _ (by omega), upd_same]
  · rcases Nat.lt_or_ge j i with hj | hj
    · rw [List.getElem?_append_left (by omega)] at hw
      have h := hown j v w hv hw
      exact ⟨h.1.mv keep, h.2.mv keep⟩
    · obtain rfl : j = i := by
        have := (List.getElem?_eq_some_iff.1 hw).1
        simp at this; omega
      rw [hu] at hv; cases hv
      rw [List.getElem?_append_right (by omega), hm, Nat.sub_self] at hw
      cases hw
      exact ⟨ho1.1.mv keep2, ho1.2.mv keep2⟩
  · rw [upd_ne _ _ (by omega), upd_ne _ _ (by omega), hX id (no id (by omega)), upd_ne _ _ (by omega)]
    exact htop id (by omega)
theorem nf52 (c : Cf) : NF Tryz.prog 52 [.agg c.cells] (fun r => r = .tuple [.agg (newF c).cells, .int .i64 (newE c)]) := by
  have h46 := pf47 c
  have hcv : Pur (.vptr c.cells) := .vptr (cells_pur c)
  refine nf_of_w0 Tryz.func52 (c := _) rfl rfl (Nat.le_of_ble_eq_true rfl) (args_1 (cf_pur c)) ?_
  rw [show Tryz.f52.ntmps = 26 from rfl]
  cases hg : c.good with
  | false =>
    have ev : c.err = 8 := by simp [Cf.err, hg]
    rw [ev] at h46
    have tE := aI uU <| aI Cf.cells.eq_1 <| aI ev <| tfHA0.down; repeat' first | (refine Red.h ?_) | ((with_reducible first | apply wz tkHA | apply wr_z tkHA); exact zZ; decide) | ((with_reducible first | apply w_alloc tkHA); exact zT; decide) | ((with_reducible first | apply w_store tkHA); exact zV; exact zV; exact zS) | ((with_reducible first | apply wcall' | apply wr_call); exact zV; exact zVs; exact zAs; (focus (with_unfolding_all first | exact h46)); decide) | ((with_reducible first | apply w_ift'); exact zV; exact zU) | ((with_reducible apply w_ret); (repeat refine Red.h ?_); (with_reducible first | apply donef_ret tkHA | apply doneA_ret tkHA); exact zT; exact zD) | fail
    all_goals try clear tE
    exact ⟨_, _, rfl, zero_own _ _ 8, by simp [newF, newE, hg]⟩
  | true =>
    have ev : c.err = 0 := by simp [Cf.err, hg]
    rw [ev] at h46
    obtain ⟨n, fr, hn, hfr, hn1, hf1⟩ := good_nums hg
    have tE := aI uU <| aI Cf.cells.eq_1 <| aI ev <| tfHA0.down; repeat' first | (refine Red.h ?_) | ((with_reducible first | apply wz tkHA | apply wr_z tkHA); exact zZ; decide) | ((with_reducible first | apply w_alloc tkHA); exact zT; decide) | ((with_reducible first | apply wcall' | apply wr_call); exact zV; exact zVs; exact zAs; (focus (with_unfolding_all first | exact h46)); decide) | ((with_reducible first | apply w_iff'); exact zV; exact zU) | fail
    all_goals try clear tE
    have hF : newF c = ⟨List.replicate fr (freeFr n), 0⟩ := by simp [newF, hg, hn, hfr]
    have hll : (List.replicate fr (freeFr n)).length = fr := List.length_replicate
    generalize hl : List.replicate fr (freeFr n) = l at hF hll
    have hu : ∀ i, i < fr → l[i]? = some (freeFr n) := fun i hi => by rw [← hl, List.getElem?_replicate, if_pos hi]
    refine w_loopP (S := Nat × Nat × List (AV × AV)) (fun s => [(1, .vptr c.cells), (2, .ptr 0 0), (12, .int .i64 (fr : Int)), (13, .int .i64 (s.1 : Int))]) [] (fun s H k => NwI ⟨l, 0⟩ s.1 s.2.1 s.2.2 H k) (fun s => fr - s.1) (0, 0, []) ?_ rfl ?_ ?_
    · (have tE := aI uU <| aI Cf.cells.eq_1 <| hfr; simp only [fitsT, List.take_zero, List.length_nil, sp_cons, sp_nil, upd_b, Nat.reduceBEq, cond_true, cond_false, args0_zero, args0_succ, args0_nil, tE]; repeat' first | exact trivial | apply aI | exact Sub.refl _ | exact Sub.cap)
    · refine ⟨Nat.zero_le _, rfl, rfl, fun h => absurd h (Nat.lt_irrefl 0), Nat.le_refl _, fun j u ab _ h => by simp at h, fun id hid => ?_⟩
      match id, hid with
      | id + 1, _ => rfl
    · rintro ⟨i, o, m⟩ H k hI
      have hI' := hI
      obtain ⟨hi, hm, e0, e2, hk, hown, htop⟩ := hI
      simp only at hi hm e0 e2 hk hown htop hI'
      have hw : IntKind.i64.wrap ((i : Int) + 1) = ((i + 1 : Nat) : Int) := by rw [wrap64 (by omega) (by omega)]; rfl
      by_cases e : i < fr
      · have g1 : ((i : Int) < (fr : Int)) = True := by simp; omega
        have p1 : ((0 : Nat) == k) = false := by rw [beq_eq_false_iff_ne]; omega
        have p2 : ((0 : Nat) == k + 1) = false := by rw [beq_eq_false_iff_ne]; omega
        by_cases hz : i = 0
        · subst hz
          have e1' : H 0 = some (.cells [.empty, .int .i64 0] 26) := e0
          have tE := aI uU <| aI g1 <| aI hw <| aI hn <| aI e1' <| aI p1 <| aI p2 <| aI Cf.cells.eq_1 <| tfHA0.down; repeat' first | (refine Red.h ?_) | ((with_reducible apply w_live (lvAt [[0], [1, 2], [1, 2, 4], [2, 4], [1, 2], [1, 2, 12, 13], [1, 2, 12, 13], [1, 2, 12, 13], [2]])); (focus (simp only [lvAt_zero, lvAt_succ]; rfl)); exact zLv) | ((with_reducible first | apply wz tkHA | apply wr_z tkHA); exact zZ; decide) | ((with_reducible first | apply w_ift'); exact zV; exact zU) | ((with_reducible first | apply fm_nil | apply fm_cons)) | ((with_reducible apply m_next); exact zU) | ((with_reducible first | apply m_v tkHA); exact zU; exact zZ; decide) | ((with_reducible first | apply m_xA tkHA); exact zU; exact zI; decide) | ((with_reducible first | apply m_xo tkHA); exact zU; exact zZ; decide) | ((with_reducible apply m_nilO); exact zU; (focus (simp only [List.reverse_cons, List.reverse_nil, List.nil_append, List.cons_append]; rfl)); (focus (simp only [OwedAll, Owed, Nat.reduceAdd]; (repeat' apply And.intro); all_goals first | exact trivial | (intro h; exact absurd h (by decide +kernel)) | (intro _; exact zW)))) | ((with_reducible first | apply m_chg); exact zU; (focus (first | ((with_reducible apply c_alloc tkHA); exact zT) | ((with_reducible apply c_mks tkHA); exact zV; exact zV; exact zT; exact zU; exact zT; exact zKo; exact zKo; exact zKo; (focus (first | exact zR | exact zU)); exact zU) | ((with_reducible apply c_ap); (focus (first | (intro _ ho _ hr _; (with_reducible apply ap_new tkHA ho (hr := hr)); exact zT; exact zU; exact zT; exact zT; exact zU; exact zA; exact zV; exact zK; exact zM; exact zK; exact zK; decide) | (intro _ ho _ hr _; (with_reducible apply ap_own tkHA ho (hr := hr)); exact zT; exact zU; exact zT; exact zT; exact zU; exact zV; exact zV; exact zH; exact zKo; exact zM; (focus (first | rfl | assumption)); exact zKo; exact zKo; decide)))))); decide) | ((with_reducible first | apply m_chg0); exact zU; (focus ((with_reducible apply c_store tkHA); exact zV; exact zV; exact zS))) | ((with_reducible first | apply m_p); exact zU; (focus (first | ((with_reducible first | apply pure_bs1 tkHA); exact zT; exact zU; exact zT; exact zP; exact zR; exact zC; decide; decide; exact zU; exact zU) | ((with_reducible first | apply pure_bs1 tkHA); exact zT; exact zU; exact zT; exact zP; exact zR; exact zC; decide; decide; exact zU; exact zU))); decide) | ((with_reducible apply w_drawN (id := 6) [4, 7, 9] [([4, 7, 9], [2, 3, 4, 0, 1, 5, 6, 7, 8, 9])] mixed); (focus (decide +kernel))) | fail
          all_goals try clear tE
          have hst := nw_step (f := ⟨l, 0⟩) (i := 0) (o := o) (m := m) (H := H) (X := upd H k (some (.cells (List.replicate n [AV.int .i64 (Int.ofNat 0)]).flatten 3))) (Z := (some (.cells (List.replicate n [AV.int .i64 (Int.ofNat 0)]).flatten 3))) (k := k) (ab := (.empty, .slice k 0 n (some n) 1)) hI' (hu 0 e) ⟨.nothing, zeros_own rfl (upd_same _ _ _)⟩ (fun id _ => rfl)
          refine ⟨(1, k + 1, m ++ [(.empty, .slice k 0 n (some n) 1)]), by simp only; omega, ?_, rfl, ?_⟩
          · have em : m = [] := List.eq_nil_of_length_eq_zero hm
            have et : l.take 1 = [freeFr n] := by rw [List.take_add_one, hu 0 e]; rfl
            rw [em] at hst
            simp only [et, Nat.zero_add] at hst
            rw [em]
            exact hst
          · (have tE := aI uU <| aI hw <| aI hfr <| aI hn <| Cf.cells.eq_1; simp only [fitsT, List.take_zero, List.length_nil, sp_cons, sp_nil, upd_b, Nat.reduceBEq, cond_true, cond_false, args0_zero, args0_succ, args0_nil, tE]; repeat' first | exact trivial | apply aI | exact Sub.refl _ | exact Sub.cap)
        · have e1' : H 0 = some (.cells [.slice o 0 i none 6, .int .i64 0] 26) := by rw [e0, outT, if_neg hz]
          obtain ⟨ho, hok, e3⟩ := e2 (by omega)
          have p3 : (o == k) = false := by rw [beq_eq_false_iff_ne]; omega
          have p4 : (0 == o) = false := by rw [beq_eq_false_iff_ne]; omega
          have hfl : (oRows (l.take i) m).flatten.length = i * 6 := by rw [oFlat_len (by rw [List.length_take]; omega), List.length_take, Nat.min_eq_left (by omega)]
          have tE := aI uU <| aI g1 <| aI hw <| aI hn <| aI e1' <| aI e3 <| aI hfl <| aI p1 <| aI p2 <| aI p3 <| aI p4 <| aI Cf.cells.eq_1 <| tfHA0.down; repeat' first | (refine Red.h ?_) | ((with_reducible apply w_live (lvAt [[0], [1, 2], [1, 2, 4], [2, 4], [1, 2], [1, 2, 12, 13], [1, 2, 12, 13], [1, 2, 12, 13], [2]])); (focus (simp only [lvAt_zero, lvAt_succ]; rfl)); exact zLv) | ((with_reducible first | apply wz tkHA | apply wr_z tkHA); exact zZ; decide) | ((with_reducible first | apply w_ift'); exact zV; exact zU) | ((with_reducible first | apply fm_nil | apply fm_cons)) | ((with_reducible apply m_next); exact zU) | ((with_reducible first | apply m_v tkHA); exact zU; exact zZ; decide) | ((with_reducible first | apply m_xA tkHA); exact zU; exact zI; decide) | ((with_reducible first | apply m_xo tkHA); exact zU; exact zZ; decide) | ((with_reducible apply m_nilO); exact zU; (focus (simp only [List.reverse_cons, List.reverse_nil, List.nil_append, List.cons_append]; rfl)); (focus (simp only [OwedAll, Owed, Nat.reduceAdd]; (repeat' apply And.intro); all_goals first | exact trivial | (intro h; exact absurd h (by decide +kernel)) | (intro _; exact zW)))) | ((with_reducible first | apply m_chg); exact zU; (focus (first | ((with_reducible apply c_alloc tkHA); exact zT) | ((with_reducible apply c_mks tkHA); exact zV; exact zV; exact zT; exact zU; exact zT; exact zKo; exact zKo; exact zKo; (focus (first | exact zR | exact zU)); exact zU) | ((with_reducible apply c_ap); (focus (first | (intro _ ho _ hr _; (with_reducible apply ap_new tkHA ho (hr := hr)); exact zT; exact zU; exact zT; exact zT; exact zU; exact zA; exact zV; exact zK; exact zM; exact zK; exact zK; decide) | (intro _ ho _ hr _; (with_reducible apply ap_own tkHA ho (hr := hr)); exact zT; exact zU; exact zT; exact zT; exact zU; exact zV; exact zV; exact zH; exact zKo; exact zM; (focus (first | rfl | assumption)); exact zKo; exact zKo; decide)))))); decide) | ((with_reducible first | apply m_chg0); exact zU; (focus ((with_reducible apply c_store tkHA); exact zV; exact zV; exact zS))) | ((with_reducible first | apply m_p); exact zU; (focus (first | ((with_reducible first | apply pure_bs1 tkHA); exact zT; exact zU; exact zT; exact zP; exact zR; exact zC; decide; decide; exact zU; exact zU) | ((with_reducible first | apply pure_bs1 tkHA); exact zT; exact zU; exact zT; exact zP; exact zR; exact zC; decide; decide; exact zU; exact zU))); decide) | ((with_reducible apply w_drawN (id := 6) [4, 7, 9] [([4, 7, 9], [2, 3, 4, 0, 1, 5, 6, 7, 8, 9])] mixed); (focus (decide +kernel))) | fail
          all_goals try clear tE
          have hst := nw_step (f := ⟨l, 0⟩) (i := i) (o := o) (m := m) (H := H) (X := upd (upd H k (some (.cells (List.replicate n [AV.int .i64 (Int.ofNat 0)]).flatten 3))) o none) (Z := (some (.cells (List.replicate n [AV.int .i64 (Int.ofNat 0)]).flatten 3))) (k := k) (ab := (.empty, .slice k 0 n (some n) 1)) hI' (hu i e) ⟨.nothing, zeros_own rfl (upd_same _ _ _)⟩ (fun id h => upd_ne _ _ (h.resolve_right hz))
          refine ⟨(i + 1, k + 1, m ++ [(.empty, .slice k 0 n (some n) 1)]), by simp only; omega, ?_, rfl, ?_⟩
          · have em : (oRows (l.take i) m).flatten ++ [AV.int .u8 (Int.ofNat 0), .int .i64 (Int.ofNat 0), .empty, .slice k 0 n (some n) 1, .bool false, .bool false] = (oRows (l.take (i + 1)) (m ++ [(.empty, .slice k 0 n (some n) 1)])).flatten := by
              rw [List.take_add_one, hu i e, oRows, oRows, Option.toList_some, List.zipWith_append (by rw [List.length_take]; omega), List.flatten_append]
              rfl
            simp only [← em] at hst
            exact hst
          · (have tE := aI uU <| aI hw <| aI hfr <| aI hn <| Cf.cells.eq_1; simp only [fitsT, List.take_zero, List.length_nil, sp_cons, sp_nil, upd_b, Nat.reduceBEq, cond_true, cond_false, args0_zero, args0_succ, args0_nil, tE]; repeat' first | exact trivial | apply aI | exact Sub.refl _ | exact Sub.cap)
      · have g1 : ((i : Int) < (fr : Int)) = False := by simp; omega
        have ei : i = fr := by omega
        subst ei
        have e1' : H 0 = some (.cells [.slice o 0 i none 6, .int .i64 0] 26) := by rw [e0, outT, if_neg (by omega)]
        obtain ⟨ho, hok, e3⟩ := e2 (by omega)
        have tE := aI uU <| aI g1 <| aI e1' <| aI Cf.cells.eq_1 <| tfHA0.down; repeat' first | (refine Red.h ?_) | ((with_reducible first | apply wz tkHA | apply wr_z tkHA); exact zZ; decide) | ((with_reducible first | apply w_store tkHA); exact zV; exact zV; exact zS) | ((with_reducible first | apply w_iff'); exact zV; exact zU) | ((with_reducible apply w_ret); (repeat refine Red.h ?_); (with_reducible first | apply donef_ret tkHA | apply doneA_ret tkHA); exact zT; exact zD) | fail
        all_goals try clear tE
        have hlt : l.take i = l := List.take_of_length_le (by omega)
        have e3 : H o = some (.cells (oRows (l.take i) m).flatten 74) := e3
        rw [hlt] at e3
        have ho2 : OwnF (upd H 0 (some (.cells [.slice o 0 i none 6, .int .i64 0] 26))) (fun _ => True) ⟨l, 0⟩ (.slice o 0 i none 6) := by
          refine .inr ⟨by show 0 < l.length; omega, o, m, trivial, by show AV.slice o 0 i none 6 = .slice o 0 l.length none 6; rw [hll], ?_, by show m.length = l.length; omega, fun j u ab hu' hab => ?_⟩
          · rw [upd_ne _ _ (by omega)]; exact e3
          · have h := hown j u ab hu' hab
            have mv : ∀ id c, (1 ≤ id ∧ id ≠ o) → H id = some c → (True ∧ id ≠ o) ∧ upd H 0 (some (.cells [.slice o 0 i none 6, .int .i64 0] 26)) id = some c := fun id c hid hc => ⟨⟨trivial, hid.2⟩, by rw [upd_ne _ _ (by omega)]; exact hc⟩
            exact ⟨h.1.mv mv, h.2.mv mv⟩
        refine ⟨_, _, rfl, OwnL.tuple (.cons ho2.own (.cons (.int _ _) .nil)), ?_⟩
        rw [hF, newE, if_pos hg]
end Go.Proofs.YtlmighkbeacjnaaGreatDoor

