/- frames.turn: an answer in new memory. -/
import Derived.Test.YtlmighkbeacjnaaG2
open Go Go.Lg
set_option linter.unusedSimpArgs false
set_option linter.unusedVariables false
set_option maxHeartbeats 4000000
set_option maxRecDepth 20000
namespace Go.Proofs.Ytlmighkbeacjnaa
/-- What turning the frame at a place tells: an error, and frames. -/
def turnE (c : Cf) (f : Fs) (at_ : Int) (E : Fr → Int) : Int := if okF c f = true then (if at_ < 0 ∨ at_ ≥ f.l.length then 2 else match f.l[at_.toNat]? with
  | some u => E u
  | none => 2) else 8
def turnF (c : Cf) (f : Fs) (at_ : Int) (E : Fr → Int) (V : Fr → Fr) : Fs := if turnE c f at_ E = 0 then (match f.l[at_.toNat]? with
  | some u => ⟨f.l.set at_.toNat (V u), f.h⟩
  | none => ⟨[], 0⟩) else ⟨[], 0⟩
theorem upd_swap {α : Type} {f : Nat → α} {i j : Nat} {X Y Z : α} (h : i ≠ j) : upd (upd (upd f i X) j Y) i Z = upd (upd f i Z) j Y := by
  funext k
  by_cases e : k = i
  · subst e; rw [upd_same, upd_ne _ _ h, upd_same]
  · by_cases e2 : k = j
    · subst e2; rw [upd_ne _ _ e, upd_same, upd_same]
    · rw [upd_ne _ _ e, upd_ne _ _ e2, upd_ne _ _ e, upd_ne _ _ e2, upd_ne _ _ e]
theorem zero_own (H : Heap) (S : Nat → Prop) (e : Int) : Own H S (.tuple [.agg [.empty, .int .i64 0], .int .i64 e]) (.tuple [.agg (Fs.cells ⟨[], 0⟩), .int .i64 e]) :=
  OwnL.tuple (.cons (OwnL.agg (.cons .nothing (.cons (.int _ _) .nil))) (.cons (.int _ _) .nil))
theorem FrO.own {H : Heap} {S : Nat → Prop} {b : Nat} {l : List Fr} {m : List (AV × AV)} (h : FrO H S b l m) (h0 : 0 < l.length) (hand : Int) : Own H S (.agg [.slice b 0 l.length none 6, .int .i64 hand]) (.agg (Fs.cells ⟨l, hand⟩)) :=
  OwnF.own (f := ⟨l, hand⟩) (.inr ⟨h0, b, m, h.1, rfl, h.2.1, h.2.2.flat⟩)
theorem args_turn56 {c : Cf} {f : Fs} {at_ : Int} {w : AV} {g : FuncId} {cap : List AV} (hw : Pur w) (hcap : ∀ x, x ∈ cap → Pur x) : ∀ x, x ∈ [AV.agg c.cells, .agg f.cells, .int .i64 at_, w, .func (.func g) [] cap] → Pur x := by
  intro x hx
  simp only [List.mem_cons, List.not_mem_nil, or_false] at hx
  rcases hx with rfl | rfl | rfl | rfl | rfl
  · exact cf_pur c
  · exact fsa_pur f
  · exact .int _ _
  · exact hw
  · exact .func (fun _ h => (nomatch h)) hcap
theorem nf56 (c : Cf) (f : Fs) (at_ : Int) (w : AV) (g : FuncId) (cap : List AV) (E : Fr → Int) (V : Fr → Fr) (hl : f.l.length ≤ 1000000) (hd : ∀ x, x ∈ f.l → x.d.length ≤ 1000000 ∧ x.pins.length ≤ 1000000) (hw : Pur w) (hcap : ∀ x, x ∈ cap → Pur x) (hg : Callable Try.prog g)
    (hdo : okF c f = true → ∀ (a : Nat) u, at_ = a → f.l[a]? = some u → DoS g w cap f.l a (E u) (V u)) : NF Try.prog 56 [.agg c.cells, .agg f.cells, .int .i64 at_, w, .func (.func g) [] cap] (fun r => r = .tuple [.agg (turnF c f at_ E V).cells, .int .i64 (turnE c f at_ E)]) := by
  have h11 := pf11 c f hl (fun x hx => (hd x hx).2)
  have hp := args_turn56 (c := c) (f := f) (at_ := at_) (g := g) hw hcap
  refine nf_of_w0 Try.func56 (c := _) rfl rfl (Nat.le_of_ble_eq_true rfl) hp ?_
  rw [show Try.f56.ntmps = 46 from rfl]
  cases hok : okF c f with
  | false =>
    have ev : eF c f = 8 := by simp [eF, hok]
    have e1 : turnE c f at_ E = 8 := by simp [turnE, hok]
    have e2 : turnF c f at_ E V = ⟨[], 0⟩ := by simp [turnF, e1]
    rw [e1, e2]
    have tE := And.intro (@upd_upd AV) <| And.intro (@upd_upd (Option Blk)) <| And.intro Cf.cells.eq_1 <| And.intro Fs.cells.eq_1 <| And.intro ev <| And.intro ty3 <| And.intro ty4 <| And.intro ty5 <| And.intro ty23 <| And.intro ty24 <| And.intro ty26 <| And.intro ty29 <| And.intro ty34 <| And.intro ty35 <| And.intro ty37 <| Try.results56; repeat' first | ((with_reducible first | apply w_seq | apply w_region | apply wl_nil | apply wr_nil | apply wr_nilA | apply wr_nilE | apply go_normal | apply go_ret | apply go_exit | apply blk_normal | apply blk_ret | apply blk_here | apply w_block | apply w_skip | apply w_exit | apply w_label)) | ((with_reducible first | apply wz (tok Try.prog) | apply wr_z (tok Try.prog)); exact zZ; decide) | ((with_reducible first | apply w_alloc (tok Try.prog)); exact zT; decide) | ((with_reducible first | apply w_store (tok Try.prog)); exact zV; exact zV; exact zS) | ((with_reducible first | apply wcall' | apply wr_call); exact zV; exact zVs; exact zAs; (focus (with_unfolding_all first | exact h11)); decide) | ((with_reducible first | apply w_ift'); exact zV; exact zU) | ((with_reducible apply w_ret); (repeat (with_reducible first | apply go_ret | apply blk_ret)); (with_reducible first | apply donef_ret (tok Try.prog) | apply doneA_ret (tok Try.prog)); exact zT; exact zD) | fail
    all_goals try clear tE
    exact ⟨_, _, rfl, zero_own _ _ 8, rfl⟩
  | true =>
    have ev : eF c f = 0 := by simp [eF, hok]
    by_cases a0 : at_ < 0
    · have a0' : (at_ < 0) = True := eq_true a0
      have e1 : turnE c f at_ E = 2 := by simp [turnE, hok, a0]
      have e2 : turnF c f at_ E V = ⟨[], 0⟩ := by simp [turnF, e1]
      rw [e1, e2]
      have tE := And.intro (@upd_upd AV) <| And.intro (@upd_upd (Option Blk)) <| And.intro Cf.cells.eq_1 <| And.intro Fs.cells.eq_1 <| And.intro ev <| And.intro a0' <| And.intro ty3 <| And.intro ty4 <| And.intro ty5 <| And.intro ty23 <| And.intro ty24 <| And.intro ty26 <| And.intro ty29 <| And.intro ty34 <| And.intro ty35 <| And.intro ty37 <| Try.results56; repeat' first | ((with_reducible first | apply w_seq | apply w_region | apply wl_nil | apply wr_nil | apply wr_nilA | apply wr_nilE | apply go_normal | apply go_ret | apply go_exit | apply blk_normal | apply blk_ret | apply blk_here | apply w_block | apply w_skip | apply w_exit | apply w_label)) | ((with_reducible first | apply wz (tok Try.prog) | apply wr_z (tok Try.prog)); exact zZ; decide) | ((with_reducible first | apply wskip' | apply wr_skip); exact zU; exact zL; exact zU; decide) | ((with_reducible first | apply w_alloc (tok Try.prog)); exact zT; decide) | ((with_reducible first | apply w_store (tok Try.prog)); exact zV; exact zV; exact zS) | ((with_reducible first | apply wcall' | apply wr_call); exact zV; exact zVs; exact zAs; (focus (with_unfolding_all first | exact h11)); decide) | ((with_reducible first | apply w_ift'); exact zV; exact zU) | ((with_reducible first | apply w_iff'); exact zV; exact zU) | ((with_reducible apply w_ret); (repeat (with_reducible first | apply go_ret | apply blk_ret)); (with_reducible first | apply donef_ret (tok Try.prog) | apply doneA_ret (tok Try.prog)); exact zT; exact zD) | fail
      all_goals try clear tE
      exact ⟨_, _, rfl, zero_own _ _ 2, rfl⟩
    · have a0' : (at_ < 0) = False := eq_false a0
      by_cases a1 : at_ ≥ f.l.length
      · have a1' : (at_ ≥ (f.l.length : Int)) = True := eq_true a1
        have e1 : turnE c f at_ E = 2 := by rw [turnE, if_pos hok, if_pos (.inr a1)]
        have e2 : turnF c f at_ E V = ⟨[], 0⟩ := by simp [turnF, e1]
        rw [e1, e2]
        have tE := And.intro (@upd_upd AV) <| And.intro (@upd_upd (Option Blk)) <| And.intro Cf.cells.eq_1 <| And.intro Fs.cells.eq_1 <| And.intro ev <| And.intro a0' <| And.intro a1' <| And.intro frRows_len <| And.intro ty3 <| And.intro ty4 <| And.intro ty5 <| And.intro ty23 <| And.intro ty24 <| And.intro ty26 <| And.intro ty29 <| And.intro ty34 <| And.intro ty35 <| And.intro ty37 <| Try.results56; repeat' first | ((with_reducible first | apply w_seq | apply w_region | apply wl_nil | apply wr_nil | apply wr_nilA | apply wr_nilE | apply go_normal | apply go_ret | apply go_exit | apply blk_normal | apply blk_ret | apply blk_here | apply w_block | apply w_skip | apply w_exit | apply w_label)) | ((with_reducible first | apply wz (tok Try.prog) | apply wr_z (tok Try.prog)); exact zZ; decide) | ((with_reducible first | apply wzg (tok Try.prog) | apply wr_zg (tok Try.prog)); exact zU; exact zL; exact zU; exact zZ; decide) | ((with_reducible first | apply w_alloc (tok Try.prog)); exact zT; decide) | ((with_reducible first | apply w_store (tok Try.prog)); exact zV; exact zV; exact zS) | ((with_reducible first | apply wcall' | apply wr_call); exact zV; exact zVs; exact zAs; (focus (with_unfolding_all first | exact h11)); decide) | ((with_reducible first | apply w_ift'); exact zV; exact zU) | ((with_reducible first | apply w_iff'); exact zV; exact zU) | ((with_reducible apply w_ret); (repeat (with_reducible first | apply go_ret | apply blk_ret)); (with_reducible first | apply donef_ret (tok Try.prog) | apply doneA_ret (tok Try.prog)); exact zT; exact zD) | fail
        all_goals try clear tE
        exact ⟨_, _, rfl, zero_own _ _ 2, rfl⟩
      · have a1' : (at_ ≥ (f.l.length : Int)) = False := eq_false a1
        obtain ⟨a, rfl⟩ : ∃ a : Nat, at_ = a := ⟨at_.toNat, by omega⟩
        have hal : a < f.l.length := by omega
        have hu : f.l[a]? = some f.l[a] := List.getElem?_eq_getElem hal
        generalize f.l[a] = u at hu
        have e1 : turnE c f a E = E u := by rw [turnE, if_pos hok, if_neg (by omega), Int.toNat_natCast, hu]
        have e2 : turnF c f a E V = if E u = 0 then ⟨f.l.set a (V u), f.h⟩ else ⟨[], 0⟩ := by rw [turnF, e1, Int.toNat_natCast, hu]
        rw [e1, e2]
        have tE := And.intro (@upd_upd AV) <| And.intro (@upd_upd (Option Blk)) <| And.intro Cf.cells.eq_1 <| And.intro Fs.cells.eq_1 <| And.intro ev <| And.intro a0' <| And.intro a1' <| And.intro frRows_len <| And.intro ty3 <| And.intro ty4 <| And.intro ty5 <| And.intro ty23 <| And.intro ty24 <| And.intro ty26 <| And.intro ty29 <| And.intro ty34 <| And.intro ty35 <| And.intro ty37 <| Try.results56; repeat' first | ((with_reducible first | apply w_seq | apply w_region | apply wl_nil | apply wr_nil | apply wr_nilA | apply wr_nilE | apply go_normal | apply go_ret | apply go_exit | apply blk_normal | apply blk_ret | apply blk_here | apply w_block | apply w_skip | apply w_exit | apply w_label)) | ((with_reducible first | apply wz (tok Try.prog) | apply wr_z (tok Try.prog)); exact zZ; decide) | ((with_reducible first | apply wzg (tok Try.prog) | apply wr_zg (tok Try.prog)); exact zU; exact zL; exact zU; exact zZ; decide) | ((with_reducible first | apply w_alloc (tok Try.prog)); exact zT; decide) | ((with_reducible first | apply wcall' | apply wr_call); exact zV; exact zVs; exact zAs; (focus (with_unfolding_all first | exact h11)); decide) | ((with_reducible first | apply w_iff'); exact zV; exact zU) | fail
        all_goals try clear tE
        (have tE := And.intro (@upd_upd AV) <| And.intro (@upd_upd (Option Blk)) <| And.intro Cf.cells.eq_1 <| Fs.cells.eq_1; (with_reducible apply wacall); exact zV; exact zVs; exact zAs; exact cal36; (focus (with_unfolding_all exact ac36z f hl hd _ _)); decide; clear tE)
        rintro r H' k0 ⟨hn', hold, htop, x, rfl, hown⟩
        have hk0 : 1 ≤ k0 := hn'
        rcases hown with ⟨hz, _⟩ | ⟨hl0, b, m, hb1, rfl, hbH, hm⟩
        · rw [hz] at hal; cases hal
        have hbk : b < k0 := by
          rcases Nat.lt_or_ge b k0 with hx | hx
          · exact hx
          · rw [htop b hx] at hbH; cases hbH
        have hb1 : 1 ≤ b := hb1
        have e0 := hold 0 _ rfl
        have g0 : (0 ≤ (a : Int)) = True := by simp
        have g1 : ((a : Int) < (f.l.length : Int)) = True := by simp; exact hal
        have q0 : ((0 : Nat) == k0) = false := by rw [beq_eq_false_iff_ne]; omega
        have tE := And.intro (@upd_upd AV) <| And.intro (@upd_upd (Option Blk)) <| And.intro e0 <| And.intro g0 <| And.intro g1 <| And.intro q0 <| And.intro ty3 <| And.intro ty4 <| And.intro ty5 <| And.intro ty23 <| And.intro ty24 <| And.intro ty26 <| And.intro ty29 <| And.intro ty34 <| And.intro ty35 <| And.intro ty37 <| Try.results56; repeat' first | ((with_reducible first | apply w_seq | apply w_region | apply wl_nil | apply wr_nil | apply wr_nilA | apply wr_nilE | apply go_normal | apply go_ret | apply go_exit | apply blk_normal | apply blk_ret | apply blk_here | apply w_block | apply w_skip | apply w_exit | apply w_label)) | ((with_reducible first | apply wz (tok Try.prog) | apply wr_z (tok Try.prog)); exact zZ; decide) | ((with_reducible first | apply w_alloc (tok Try.prog)); exact zT; decide) | ((with_reducible first | apply w_store (tok Try.prog)); exact zV; exact zV; exact zS) | fail
        all_goals try clear tE
        have hF : FrO (upd H' k0 (some (.cells [.slice b 0 f.l.length none 6, .int .i64 f.h] 26))) (fun x => 1 ≤ x ∧ x < k0) b f.l m := by
          obtain ⟨hm1, gg, hm2⟩ := hm
          refine ⟨⟨hb1, hbk⟩, by rw [upd_ne _ _ (by omega)]; exact hbH, hm1, gg, fun j v z hv hz => ?_⟩
          have hmv : ∀ q id c, ((1 ≤ id ∧ id ≠ b) ∧ gg id = q) → H' id = some c → (((1 ≤ id ∧ id < k0) ∧ id ≠ b) ∧ gg id = q) ∧ upd H' k0 (some (.cells [.slice b 0 f.l.length none 6, .int .i64 f.h] 26)) id = some c := fun q id c hid hc => by
            have hlt : id < k0 := by
              rcases Nat.lt_or_ge id k0 with hx' | hx'
              · exact hx'
              · rw [htop id hx'] at hc; cases hc
            exact ⟨⟨⟨⟨hid.1.1, hlt⟩, hid.1.2⟩, hid.2⟩, by rw [upd_ne _ _ (by omega)]; exact hc⟩
          exact ⟨(hm2 j v z hv hz).1.mv (hmv _), (hm2 j v z hv hz).2.mv (hmv _)⟩
        have hcl := hdo hok a u rfl hu _ (k0 + 1) _ b m hF (fun id hid => by omega) (fun id hid => by rw [upd_ne _ _ (by omega)]; exact htop id (by omega))
        have e0k : upd H' k0 (some (.cells [.slice b 0 f.l.length none 6, .int .i64 f.h] 26)) 0 = H' 0 := upd_ne _ _ (by omega)
        have ekk : upd H' k0 (some (.cells [.slice b 0 f.l.length none 6, .int .i64 f.h] 26)) k0 = some (.cells [.slice b 0 f.l.length none 6, .int .i64 f.h] 26) := upd_same _ _ _
        generalize upd H' k0 (some (.cells [.slice b 0 f.l.length none 6, .int .i64 f.h] 26)) = HX at hF hcl e0k ekk
        rw [e0] at e0k
        (have tE := And.intro (@upd_upd AV) <| @upd_upd (Option Blk); (with_reducible apply wacall); exact zV; exact zVs; exact zAs; exact hg; (focus (with_unfolding_all exact hcl)); decide; clear tE)
        rintro r H'' n'' ⟨rfl, hres⟩
        rcases hres with ⟨hE, rfl⟩ | ⟨hE, m', hF', hkeep⟩
        · have hE' : (E u != 0) = true := by simpa using hE
          have tE := And.intro (@upd_upd AV) <| And.intro (@upd_upd (Option Blk)) <| And.intro e0k <| And.intro ekk <| And.intro hE' <| And.intro ty3 <| And.intro ty4 <| And.intro ty5 <| And.intro ty23 <| And.intro ty24 <| And.intro ty26 <| And.intro ty29 <| And.intro ty34 <| And.intro ty35 <| And.intro ty37 <| Try.results56; repeat' first | ((with_reducible first | apply w_seq | apply w_region | apply wl_nil | apply wr_nil | apply wr_nilA | apply wr_nilE | apply go_normal | apply go_ret | apply go_exit | apply blk_normal | apply blk_ret | apply blk_here | apply w_block | apply w_skip | apply w_exit | apply w_label)) | ((with_reducible first | apply wz (tok Try.prog) | apply wr_z (tok Try.prog)); exact zZ; decide) | ((with_reducible first | apply w_store (tok Try.prog)); exact zV; exact zV; exact zS) | ((with_reducible first | apply w_ift'); exact zV; exact zU) | ((with_reducible apply w_ret); (repeat (with_reducible first | apply go_ret | apply blk_ret)); (with_reducible first | apply donef_ret (tok Try.prog) | apply doneA_ret (tok Try.prog)); exact zT; exact zD) | fail
          all_goals try clear tE
          rw [if_neg hE]
          exact ⟨_, _, rfl, zero_own _ _ _, rfl⟩
        · have hE' : (E u != 0) = false := by simp [hE]
          have f0 := hkeep 0 (by omega) (fun h => by omega)
          have fk := hkeep k0 (by omega) (fun h => by omega)
          rw [e0k] at f0
          rw [ekk] at fk
          have tE := And.intro (@upd_upd AV) <| And.intro (@upd_upd (Option Blk)) <| And.intro f0 <| And.intro fk <| And.intro hE' <| And.intro ty3 <| And.intro ty4 <| And.intro ty5 <| And.intro ty23 <| And.intro ty24 <| And.intro ty26 <| And.intro ty29 <| And.intro ty34 <| And.intro ty35 <| And.intro ty37 <| Try.results56; repeat' first | ((with_reducible first | apply w_seq | apply w_region | apply wl_nil | apply wr_nil | apply wr_nilA | apply wr_nilE | apply go_normal | apply go_ret | apply go_exit | apply blk_normal | apply blk_ret | apply blk_here | apply w_block | apply w_skip | apply w_exit | apply w_label)) | ((with_reducible first | apply wz (tok Try.prog) | apply wr_z (tok Try.prog)); exact zZ; decide) | ((with_reducible first | apply w_store (tok Try.prog)); exact zV; exact zV; exact zS) | ((with_reducible first | apply w_iff'); exact zV; exact zU) | ((with_reducible apply w_ret); (repeat (with_reducible first | apply go_ret | apply blk_ret)); (with_reducible first | apply donef_ret (tok Try.prog) | apply doneA_ret (tok Try.prog)); exact zT; exact zD) | fail
          all_goals try clear tE
          rw [if_pos hE, hE]
          have ho := FrO.own hF' (by rw [List.length_set]; exact hl0) f.h
          rw [List.length_set] at ho
          refine ⟨_, _, rfl, OwnL.tuple (.cons (ho.mv (fun id c hid hc => ⟨trivial, ?_⟩)) (.cons (.int _ _) .nil)), rfl⟩
          rw [upd_ne _ _ (by omega)]; exact hc
theorem args_turn62 {c : Cf} {f : Fs} {at_ : Int} {w : AV} {g : FuncId} {cap : List AV} (hw : Pur w) (hcap : ∀ x, x ∈ cap → Pur x) : ∀ x, x ∈ [AV.agg c.cells, .agg f.cells, .int .i64 at_, w, .func (.func g) [] cap] → Pur x := by
  intro x hx
  simp only [List.mem_cons, List.not_mem_nil, or_false] at hx
  rcases hx with rfl | rfl | rfl | rfl | rfl
  · exact cf_pur c
  · exact fsa_pur f
  · exact .int _ _
  · exact hw
  · exact .func (fun _ h => (nomatch h)) hcap
theorem nf62 (c : Cf) (f : Fs) (at_ : Int) (w : AV) (g : FuncId) (cap : List AV) (E : Fr → Int) (V : Fr → Fr) (hl : f.l.length ≤ 1000000) (hd : ∀ x, x ∈ f.l → x.d.length ≤ 1000000 ∧ x.pins.length ≤ 1000000) (hw : Pur w) (hcap : ∀ x, x ∈ cap → Pur x) (hg : Callable Try.prog g)
    (hdo : okF c f = true → ∀ (a : Nat) u, at_ = a → f.l[a]? = some u → DoS g w cap f.l a (E u) (V u)) : NF Try.prog 62 [.agg c.cells, .agg f.cells, .int .i64 at_, w, .func (.func g) [] cap] (fun r => r = .tuple [.agg (turnF c f at_ E V).cells, .int .i64 (turnE c f at_ E)]) := by
  have h11 := pf11 c f hl (fun x hx => (hd x hx).2)
  have hp := args_turn62 (c := c) (f := f) (at_ := at_) (g := g) hw hcap
  refine nf_of_w0 Try.func62 (c := _) rfl rfl (Nat.le_of_ble_eq_true rfl) hp ?_
  rw [show Try.f62.ntmps = 46 from rfl]
  cases hok : okF c f with
  | false =>
    have ev : eF c f = 8 := by simp [eF, hok]
    have e1 : turnE c f at_ E = 8 := by simp [turnE, hok]
    have e2 : turnF c f at_ E V = ⟨[], 0⟩ := by simp [turnF, e1]
    rw [e1, e2]
    have tE := And.intro (@upd_upd AV) <| And.intro (@upd_upd (Option Blk)) <| And.intro Cf.cells.eq_1 <| And.intro Fs.cells.eq_1 <| And.intro ev <| And.intro ty3 <| And.intro ty4 <| And.intro ty5 <| And.intro ty23 <| And.intro ty24 <| And.intro ty26 <| And.intro ty29 <| And.intro ty34 <| And.intro ty35 <| And.intro ty37 <| Try.results62; repeat' first | ((with_reducible first | apply w_seq | apply w_region | apply wl_nil | apply wr_nil | apply wr_nilA | apply wr_nilE | apply go_normal | apply go_ret | apply go_exit | apply blk_normal | apply blk_ret | apply blk_here | apply w_block | apply w_skip | apply w_exit | apply w_label)) | ((with_reducible first | apply wz (tok Try.prog) | apply wr_z (tok Try.prog)); exact zZ; decide) | ((with_reducible first | apply w_alloc (tok Try.prog)); exact zT; decide) | ((with_reducible first | apply w_store (tok Try.prog)); exact zV; exact zV; exact zS) | ((with_reducible first | apply wcall' | apply wr_call); exact zV; exact zVs; exact zAs; (focus (with_unfolding_all first | exact h11)); decide) | ((with_reducible first | apply w_ift'); exact zV; exact zU) | ((with_reducible apply w_ret); (repeat (with_reducible first | apply go_ret | apply blk_ret)); (with_reducible first | apply donef_ret (tok Try.prog) | apply doneA_ret (tok Try.prog)); exact zT; exact zD) | fail
    all_goals try clear tE
    exact ⟨_, _, rfl, zero_own _ _ 8, rfl⟩
  | true =>
    have ev : eF c f = 0 := by simp [eF, hok]
    by_cases a0 : at_ < 0
    · have a0' : (at_ < 0) = True := eq_true a0
      have e1 : turnE c f at_ E = 2 := by simp [turnE, hok, a0]
      have e2 : turnF c f at_ E V = ⟨[], 0⟩ := by simp [turnF, e1]
      rw [e1, e2]
      have tE := And.intro (@upd_upd AV) <| And.intro (@upd_upd (Option Blk)) <| And.intro Cf.cells.eq_1 <| And.intro Fs.cells.eq_1 <| And.intro ev <| And.intro a0' <| And.intro ty3 <| And.intro ty4 <| And.intro ty5 <| And.intro ty23 <| And.intro ty24 <| And.intro ty26 <| And.intro ty29 <| And.intro ty34 <| And.intro ty35 <| And.intro ty37 <| Try.results62; repeat' first | ((with_reducible first | apply w_seq | apply w_region | apply wl_nil | apply wr_nil | apply wr_nilA | apply wr_nilE | apply go_normal | apply go_ret | apply go_exit | apply blk_normal | apply blk_ret | apply blk_here | apply w_block | apply w_skip | apply w_exit | apply w_label)) | ((with_reducible first | apply wz (tok Try.prog) | apply wr_z (tok Try.prog)); exact zZ; decide) | ((with_reducible first | apply wskip' | apply wr_skip); exact zU; exact zL; exact zU; decide) | ((with_reducible first | apply w_alloc (tok Try.prog)); exact zT; decide) | ((with_reducible first | apply w_store (tok Try.prog)); exact zV; exact zV; exact zS) | ((with_reducible first | apply wcall' | apply wr_call); exact zV; exact zVs; exact zAs; (focus (with_unfolding_all first | exact h11)); decide) | ((with_reducible first | apply w_ift'); exact zV; exact zU) | ((with_reducible first | apply w_iff'); exact zV; exact zU) | ((with_reducible apply w_ret); (repeat (with_reducible first | apply go_ret | apply blk_ret)); (with_reducible first | apply donef_ret (tok Try.prog) | apply doneA_ret (tok Try.prog)); exact zT; exact zD) | fail
      all_goals try clear tE
      exact ⟨_, _, rfl, zero_own _ _ 2, rfl⟩
    · have a0' : (at_ < 0) = False := eq_false a0
      by_cases a1 : at_ ≥ f.l.length
      · have a1' : (at_ ≥ (f.l.length : Int)) = True := eq_true a1
        have e1 : turnE c f at_ E = 2 := by rw [turnE, if_pos hok, if_pos (.inr a1)]
        have e2 : turnF c f at_ E V = ⟨[], 0⟩ := by simp [turnF, e1]
        rw [e1, e2]
        have tE := And.intro (@upd_upd AV) <| And.intro (@upd_upd (Option Blk)) <| And.intro Cf.cells.eq_1 <| And.intro Fs.cells.eq_1 <| And.intro ev <| And.intro a0' <| And.intro a1' <| And.intro frRows_len <| And.intro ty3 <| And.intro ty4 <| And.intro ty5 <| And.intro ty23 <| And.intro ty24 <| And.intro ty26 <| And.intro ty29 <| And.intro ty34 <| And.intro ty35 <| And.intro ty37 <| Try.results62; repeat' first | ((with_reducible first | apply w_seq | apply w_region | apply wl_nil | apply wr_nil | apply wr_nilA | apply wr_nilE | apply go_normal | apply go_ret | apply go_exit | apply blk_normal | apply blk_ret | apply blk_here | apply w_block | apply w_skip | apply w_exit | apply w_label)) | ((with_reducible first | apply wz (tok Try.prog) | apply wr_z (tok Try.prog)); exact zZ; decide) | ((with_reducible first | apply wzg (tok Try.prog) | apply wr_zg (tok Try.prog)); exact zU; exact zL; exact zU; exact zZ; decide) | ((with_reducible first | apply w_alloc (tok Try.prog)); exact zT; decide) | ((with_reducible first | apply w_store (tok Try.prog)); exact zV; exact zV; exact zS) | ((with_reducible first | apply wcall' | apply wr_call); exact zV; exact zVs; exact zAs; (focus (with_unfolding_all first | exact h11)); decide) | ((with_reducible first | apply w_ift'); exact zV; exact zU) | ((with_reducible first | apply w_iff'); exact zV; exact zU) | ((with_reducible apply w_ret); (repeat (with_reducible first | apply go_ret | apply blk_ret)); (with_reducible first | apply donef_ret (tok Try.prog) | apply doneA_ret (tok Try.prog)); exact zT; exact zD) | fail
        all_goals try clear tE
        exact ⟨_, _, rfl, zero_own _ _ 2, rfl⟩
      · have a1' : (at_ ≥ (f.l.length : Int)) = False := eq_false a1
        obtain ⟨a, rfl⟩ : ∃ a : Nat, at_ = a := ⟨at_.toNat, by omega⟩
        have hal : a < f.l.length := by omega
        have hu : f.l[a]? = some f.l[a] := List.getElem?_eq_getElem hal
        generalize f.l[a] = u at hu
        have e1 : turnE c f a E = E u := by rw [turnE, if_pos hok, if_neg (by omega), Int.toNat_natCast, hu]
        have e2 : turnF c f a E V = if E u = 0 then ⟨f.l.set a (V u), f.h⟩ else ⟨[], 0⟩ := by rw [turnF, e1, Int.toNat_natCast, hu]
        rw [e1, e2]
        have tE := And.intro (@upd_upd AV) <| And.intro (@upd_upd (Option Blk)) <| And.intro Cf.cells.eq_1 <| And.intro Fs.cells.eq_1 <| And.intro ev <| And.intro a0' <| And.intro a1' <| And.intro frRows_len <| And.intro ty3 <| And.intro ty4 <| And.intro ty5 <| And.intro ty23 <| And.intro ty24 <| And.intro ty26 <| And.intro ty29 <| And.intro ty34 <| And.intro ty35 <| And.intro ty37 <| Try.results62; repeat' first | ((with_reducible first | apply w_seq | apply w_region | apply wl_nil | apply wr_nil | apply wr_nilA | apply wr_nilE | apply go_normal | apply go_ret | apply go_exit | apply blk_normal | apply blk_ret | apply blk_here | apply w_block | apply w_skip | apply w_exit | apply w_label)) | ((with_reducible first | apply wz (tok Try.prog) | apply wr_z (tok Try.prog)); exact zZ; decide) | ((with_reducible first | apply wzg (tok Try.prog) | apply wr_zg (tok Try.prog)); exact zU; exact zL; exact zU; exact zZ; decide) | ((with_reducible first | apply w_alloc (tok Try.prog)); exact zT; decide) | ((with_reducible first | apply wcall' | apply wr_call); exact zV; exact zVs; exact zAs; (focus (with_unfolding_all first | exact h11)); decide) | ((with_reducible first | apply w_iff'); exact zV; exact zU) | fail
        all_goals try clear tE
        (have tE := And.intro (@upd_upd AV) <| And.intro (@upd_upd (Option Blk)) <| And.intro Cf.cells.eq_1 <| Fs.cells.eq_1; (with_reducible apply wacall); exact zV; exact zVs; exact zAs; exact cal36; (focus (with_unfolding_all exact ac36z f hl hd _ _)); decide; clear tE)
        rintro r H' k0 ⟨hn', hold, htop, x, rfl, hown⟩
        have hk0 : 1 ≤ k0 := hn'
        rcases hown with ⟨hz, _⟩ | ⟨hl0, b, m, hb1, rfl, hbH, hm⟩
        · rw [hz] at hal; cases hal
        have hbk : b < k0 := by
          rcases Nat.lt_or_ge b k0 with hx | hx
          · exact hx
          · rw [htop b hx] at hbH; cases hbH
        have hb1 : 1 ≤ b := hb1
        have e0 := hold 0 _ rfl
        have g0 : (0 ≤ (a : Int)) = True := by simp
        have g1 : ((a : Int) < (f.l.length : Int)) = True := by simp; exact hal
        have q0 : ((0 : Nat) == k0) = false := by rw [beq_eq_false_iff_ne]; omega
        have tE := And.intro (@upd_upd AV) <| And.intro (@upd_upd (Option Blk)) <| And.intro e0 <| And.intro g0 <| And.intro g1 <| And.intro q0 <| And.intro ty3 <| And.intro ty4 <| And.intro ty5 <| And.intro ty23 <| And.intro ty24 <| And.intro ty26 <| And.intro ty29 <| And.intro ty34 <| And.intro ty35 <| And.intro ty37 <| Try.results62; repeat' first | ((with_reducible first | apply w_seq | apply w_region | apply wl_nil | apply wr_nil | apply wr_nilA | apply wr_nilE | apply go_normal | apply go_ret | apply go_exit | apply blk_normal | apply blk_ret | apply blk_here | apply w_block | apply w_skip | apply w_exit | apply w_label)) | ((with_reducible first | apply wz (tok Try.prog) | apply wr_z (tok Try.prog)); exact zZ; decide) | ((with_reducible first | apply w_alloc (tok Try.prog)); exact zT; decide) | ((with_reducible first | apply w_store (tok Try.prog)); exact zV; exact zV; exact zS) | fail
        all_goals try clear tE
        have hF : FrO (upd H' k0 (some (.cells [.slice b 0 f.l.length none 6, .int .i64 f.h] 26))) (fun x => 1 ≤ x ∧ x < k0) b f.l m := by
          obtain ⟨hm1, gg, hm2⟩ := hm
          refine ⟨⟨hb1, hbk⟩, by rw [upd_ne _ _ (by omega)]; exact hbH, hm1, gg, fun j v z hv hz => ?_⟩
          have hmv : ∀ q id c, ((1 ≤ id ∧ id ≠ b) ∧ gg id = q) → H' id = some c → (((1 ≤ id ∧ id < k0) ∧ id ≠ b) ∧ gg id = q) ∧ upd H' k0 (some (.cells [.slice b 0 f.l.length none 6, .int .i64 f.h] 26)) id = some c := fun q id c hid hc => by
            have hlt : id < k0 := by
              rcases Nat.lt_or_ge id k0 with hx' | hx'
              · exact hx'
              · rw [htop id hx'] at hc; cases hc
            exact ⟨⟨⟨⟨hid.1.1, hlt⟩, hid.1.2⟩, hid.2⟩, by rw [upd_ne _ _ (by omega)]; exact hc⟩
          exact ⟨(hm2 j v z hv hz).1.mv (hmv _), (hm2 j v z hv hz).2.mv (hmv _)⟩
        have hcl := hdo hok a u rfl hu _ (k0 + 1) _ b m hF (fun id hid => by omega) (fun id hid => by rw [upd_ne _ _ (by omega)]; exact htop id (by omega))
        have e0k : upd H' k0 (some (.cells [.slice b 0 f.l.length none 6, .int .i64 f.h] 26)) 0 = H' 0 := upd_ne _ _ (by omega)
        have ekk : upd H' k0 (some (.cells [.slice b 0 f.l.length none 6, .int .i64 f.h] 26)) k0 = some (.cells [.slice b 0 f.l.length none 6, .int .i64 f.h] 26) := upd_same _ _ _
        generalize upd H' k0 (some (.cells [.slice b 0 f.l.length none 6, .int .i64 f.h] 26)) = HX at hF hcl e0k ekk
        rw [e0] at e0k
        (have tE := And.intro (@upd_upd AV) <| @upd_upd (Option Blk); (with_reducible apply wacall); exact zV; exact zVs; exact zAs; exact hg; (focus (with_unfolding_all exact hcl)); decide; clear tE)
        rintro r H'' n'' ⟨rfl, hres⟩
        rcases hres with ⟨hE, rfl⟩ | ⟨hE, m', hF', hkeep⟩
        · have hE' : (E u != 0) = true := by simpa using hE
          have tE := And.intro (@upd_upd AV) <| And.intro (@upd_upd (Option Blk)) <| And.intro e0k <| And.intro ekk <| And.intro hE' <| And.intro ty3 <| And.intro ty4 <| And.intro ty5 <| And.intro ty23 <| And.intro ty24 <| And.intro ty26 <| And.intro ty29 <| And.intro ty34 <| And.intro ty35 <| And.intro ty37 <| Try.results62; repeat' first | ((with_reducible first | apply w_seq | apply w_region | apply wl_nil | apply wr_nil | apply wr_nilA | apply wr_nilE | apply go_normal | apply go_ret | apply go_exit | apply blk_normal | apply blk_ret | apply blk_here | apply w_block | apply w_skip | apply w_exit | apply w_label)) | ((with_reducible first | apply wz (tok Try.prog) | apply wr_z (tok Try.prog)); exact zZ; decide) | ((with_reducible first | apply w_store (tok Try.prog)); exact zV; exact zV; exact zS) | ((with_reducible first | apply w_ift'); exact zV; exact zU) | ((with_reducible apply w_ret); (repeat (with_reducible first | apply go_ret | apply blk_ret)); (with_reducible first | apply donef_ret (tok Try.prog) | apply doneA_ret (tok Try.prog)); exact zT; exact zD) | fail
          all_goals try clear tE
          rw [if_neg hE]
          exact ⟨_, _, rfl, zero_own _ _ _, rfl⟩
        · have hE' : (E u != 0) = false := by simp [hE]
          have f0 := hkeep 0 (by omega) (fun h => by omega)
          have fk := hkeep k0 (by omega) (fun h => by omega)
          rw [e0k] at f0
          rw [ekk] at fk
          have tE := And.intro (@upd_upd AV) <| And.intro (@upd_upd (Option Blk)) <| And.intro f0 <| And.intro fk <| And.intro hE' <| And.intro ty3 <| And.intro ty4 <| And.intro ty5 <| And.intro ty23 <| And.intro ty24 <| And.intro ty26 <| And.intro ty29 <| And.intro ty34 <| And.intro ty35 <| And.intro ty37 <| Try.results62; repeat' first | ((with_reducible first | apply w_seq | apply w_region | apply wl_nil | apply wr_nil | apply wr_nilA | apply wr_nilE | apply go_normal | apply go_ret | apply go_exit | apply blk_normal | apply blk_ret | apply blk_here | apply w_block | apply w_skip | apply w_exit | apply w_label)) | ((with_reducible first | apply wz (tok Try.prog) | apply wr_z (tok Try.prog)); exact zZ; decide) | ((with_reducible first | apply w_store (tok Try.prog)); exact zV; exact zV; exact zS) | ((with_reducible first | apply w_iff'); exact zV; exact zU) | ((with_reducible apply w_ret); (repeat (with_reducible first | apply go_ret | apply blk_ret)); (with_reducible first | apply donef_ret (tok Try.prog) | apply doneA_ret (tok Try.prog)); exact zT; exact zD) | fail
          all_goals try clear tE
          rw [if_pos hE, hE]
          have ho := FrO.own hF' (by rw [List.length_set]; exact hl0) f.h
          rw [List.length_set] at ho
          refine ⟨_, _, rfl, OwnL.tuple (.cons (ho.mv (fun id c hid hc => ⟨trivial, ?_⟩)) (.cons (.int _ _) .nil)), rfl⟩
          rw [upd_ne _ _ (by omega)]; exact hc
end Go.Proofs.Ytlmighkbeacjnaa
