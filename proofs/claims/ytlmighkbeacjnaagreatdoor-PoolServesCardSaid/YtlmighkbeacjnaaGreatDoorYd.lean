/- Frames in own memory, one of which is turned. What turns one frame of frames in own memory. frames.turn: an answer in new memory. The functions that turn a frame: answers in new memory. The six functions that turn a frame: answers in new memory. What may be stays so. Plain. -/
import Derived.Test.YtlmighkbeacjnaaGreatDoorLm6
import Derived.Test.YtlmighkbeacjnaaGreatDoorYc

open Go Go.Lg
set_option linter.unusedSimpArgs false
set_option linter.unusedVariables false
set_option maxHeartbeats 4000000
set_option maxRecDepth 20000
namespace Go.Proofs.YtlmighkbeacjnaaGreatDoor
/-- Frames whose list is the block 'b', all of ids in 'S'. -/
def FrO (H : Heap) (S : Nat → Prop) (b : Nat) (l : List Fr) (m : List (AV × AV)) : Prop := S b ∧ H b = some (.cells (oRows l m).flatten 74) ∧ OwnABz H (fun x => S x ∧ x ≠ b) l m
theorem oRows_set2 {l : List Fr} {m : List (AV × AV)} {i : Nat} {u : Fr} {ab : AV × AV} (u' : Fr) (ab' : AV × AV) (h : l[i]? = some u) (h' : m[i]? = some ab) : (oRows l m).set i (oRow u' ab') = oRows (l.set i u') (m.set i ab') := by
  refine List.ext_getElem? fun j => ?_
  have h1 := (List.getElem?_eq_some_iff.1 h).1
  have h2 := (List.getElem?_eq_some_iff.1 h').1
  rw [List.getElem?_set, oRows, oRows, List.getElem?_zipWith, List.getElem?_zipWith, List.getElem?_set, List.getElem?_set]
  by_cases e : i = j
  · subst e
    simp only [if_true, List.length_zipWith, if_pos h1, if_pos h2, if_pos (show i < min l.length m.length by omega)]
  · simp only [if_neg e]
/-- Cells of a frame in own memory, set one by one. -/
theorem oFlat_wr {l : List Fr} {m : List (AV × AV)} {i : Nat} {u : Fr} {ab : AV × AV} (h : l[i]? = some u) (h' : m[i]? = some ab) {j : Nat} (hj : j < 6) {x : AV} {u' : Fr} {ab' : AV × AV} (e : (oRow u ab).set j x = oRow u' ab') : (oRows l m).flatten.set (i * 6 + j) x = (oRows (l.set i u') (m.set i ab')).flatten := by
  rw [flat_set (oRows_row l m) x (oRows_at h h') hj, e, oRows_set2 u' ab' h h']
theorem set_at {α : Type} {l : List α} {i : Nat} {x y : α} (h : l[i]? = some x) : (l.set i y)[i]? = some y := List.getElem?_set_self (List.getElem?_eq_some_iff.1 h).1
theorem FrO.len {H : Heap} {S : Nat → Prop} {b : Nat} {l : List Fr} {m : List (AV × AV)} (h : FrO H S b l m) : m.length = l.length := h.2.2.1
theorem FrO.mono {H : Heap} {S S' : Nat → Prop} {b : Nat} {l : List Fr} {m : List (AV × AV)} (hS : ∀ x, S x → S' x) (h : FrO H S b l m) : FrO H S' b l m := by
  obtain ⟨h1, h2, h3, g, h4⟩ := h
  exact ⟨hS _ h1, h2, h3, g, fun j u ab hu hab => ⟨(h4 j u ab hu hab).1.mono (fun _ h => ⟨⟨hS _ h.1.1, h.1.2⟩, h.2⟩) (fun _ _ _ h => h), (h4 j u ab hu hab).2.mono (fun _ h => ⟨⟨hS _ h.1.1, h.1.2⟩, h.2⟩) (fun _ _ _ h => h)⟩⟩
/-- One has other bytes, or other pins, in a new block. -/
theorem fro_new {H H1 : Heap} {S : Nat → Prop} {b n i : Nat} {l : List Fr} {m : List (AV × AV)} {u u' : Fr} {ab ab' : AV × AV} (h : FrO H S b l m) (hb : b < n) (htop : ∀ id, n ≤ id → H id = none) (h1 : ∀ id, id < n → H1 id = H id) (hu : l[i]? = some u) (hab : m[i]? = some ab)
    (hnew : (Own H1 (fun x => x = n) ab'.1 (.view (byteRows u'.d)) ∧ ab'.2 = ab.2 ∧ u'.pins = u.pins) ∨ (ab'.1 = .empty ∧ u'.d = [] ∧ Own H1 (fun x => x = n) ab'.2 (.view (intRows u'.pins)))) :
    FrO (upd H1 b (some (.cells (oRows (l.set i u') (m.set i ab')).flatten 74))) (fun x => S x ∨ x = n) b (l.set i u') (m.set i ab') := by
  obtain ⟨g1, g2, g3, g, g4⟩ := h
  have lt : ∀ id c, H id = some c → id < n := fun id c hc => by
    rcases Nat.lt_or_ge id n with h | h
    · exact h
    · rw [htop id h] at hc; cases hc
  have key : ∀ q z id c, ((S id ∧ id ≠ b) ∧ g id = q) → H id = some c → (((S id ∨ id = n) ∧ id ≠ b) ∧ (if id = n then z else g id) = q) ∧ upd H1 b (some (.cells (oRows (l.set i u') (m.set i ab')).flatten 74)) id = some c := fun q z id c hid hc => by
    have := lt id c hc
    exact ⟨⟨⟨.inl hid.1.1, hid.1.2⟩, by rw [if_neg (by omega)]; exact hid.2⟩, by rw [upd_ne _ _ hid.1.2, h1 id this]; exact hc⟩
  have knew : ∀ z id c, id = n → H1 id = some c → (((S id ∨ id = n) ∧ id ≠ b) ∧ (if id = n then z else g id) = z) ∧ upd H1 b (some (.cells (oRows (l.set i u') (m.set i ab')).flatten 74)) id = some c := fun z id c hid hc => by
    exact ⟨⟨⟨.inr hid, by omega⟩, by rw [if_pos hid]⟩, by rw [upd_ne _ _ (by omega)]; exact hc⟩
  rcases hnew with ⟨o1, o2, o3⟩ | ⟨o1, o2, o3⟩
  · refine ⟨.inl g1, upd_same _ _ _, by rw [List.length_set, List.length_set]; exact g3, fun x => if x = n then 2 * i else g x, fun j v w hv hw => ?_⟩
    by_cases e : i = j
    · subst e
      rw [set_at hu] at hv; cases hv
      rw [set_at hab] at hw; cases hw
      have := g4 i u ab hu hab
      exact ⟨o1.mv (knew (2 * i)), by rw [o2, o3]; exact this.2.mv (key _ _)⟩
    · rw [List.getElem?_set_ne e] at hv hw
      have := g4 j v w hv hw
      exact ⟨this.1.mv (key _ _), this.2.mv (key _ _)⟩
  · refine ⟨.inl g1, upd_same _ _ _, by rw [List.length_set, List.length_set]; exact g3, fun x => if x = n then 2 * i + 1 else g x, fun j v w hv hw => ?_⟩
    by_cases e : i = j
    · subst e
      rw [set_at hu] at hv; cases hv
      rw [set_at hab] at hw; cases hw
      exact ⟨by rw [o1, o2]; exact .nothing, o3.mv (knew (2 * i + 1))⟩
    · rw [List.getElem?_set_ne e] at hv hw
      have := g4 j v w hv hw
      exact ⟨this.1.mv (key _ _), this.2.mv (key _ _)⟩
end Go.Proofs.YtlmighkbeacjnaaGreatDoor


open Go Go.Lg
set_option linter.unusedSimpArgs false
set_option linter.unusedVariables false
set_option maxHeartbeats 4000000
set_option maxRecDepth 20000
namespace Go.Proofs.YtlmighkbeacjnaaGreatDoor
/-- A function turns a frame of frames in own memory, or tells an error and leaves all. -/
def DoS (g : FuncId) (w : AV) (cap : List AV) (l : List Fr) (at_ : Nat) (E : Int) (V : Fr) : Prop := ∀ (H : Heap) (n : Nat) (S : Nat → Prop) (b : Nat) (m : List (AV × AV)), FrO H S b l m → (∀ id, S id → id < n) → (∀ id, n ≤ id → H id = none) →
  AC Tryz.prog g ([.ptr b (at_ * 6), w] ++ cap) H n (fun r H' _ => r = .ret (.int .i64 E) ∧ ((E ≠ 0 ∧ H' = H) ∨ (E = 0 ∧ ∃ m', FrO H' (fun x => S x ∨ x = n) b (l.set at_ V) m' ∧ ∀ id, id < n → ¬ S id → H' id = H id)))
/-- Where bytes are put in a frame. -/
theorem fro_data {H : Heap} {S : Nat → Prop} {b n at_ : Nat} {l : List Fr} {m : List (AV × AV)} {u u' : Fr} {ab : AV × AV} {data : List UInt8} (hF : FrO H S b l m) (hbn : b < n) (htop : ∀ id, n ≤ id → H id = none) (hu : l[at_]? = some u) (hab : m[at_]? = some ab) (h1 : u'.d = data) (h2 : u'.pins = u.pins) :
    FrO (upd (clH H n 5 (byteRows data)) b (some (.cells (oRows (l.set at_ u') (m.set at_ (ownR n 1 (byteRows data), ab.2))).flatten 74))) (fun x => S x ∨ x = n) b (l.set at_ u') (m.set at_ (ownR n 1 (byteRows data), ab.2)) :=
  fro_new hF hbn htop (fun id hid => clH_old (by omega)) hu hab (.inl ⟨by rw [h1]; exact clH_own (fun _ => rfl) (byteRows_row _) (byteRows_flat _), rfl, h2⟩)
theorem do91 (c : Cf) (data : List UInt8) (hdl : data.length ≤ 1000000) {l : List Fr} {at_ : Nat} {u : Fr} (hu : l[at_]? = some u) : DoS 91 (.view (byteRows data)) [.vptr c.cells] l at_ (if u.k = 1 ∧ (data.length : Int) = c.z then 0 else 2) { u with k := 2, d := data } := by
  intro H n S b m hF hSn htop
  obtain ⟨ab, hab⟩ : ∃ ab, m[at_]? = some ab := ⟨m[at_]'(by rw [hF.len]; exact (List.getElem?_eq_some_iff.1 hu).1), List.getElem?_eq_getElem _⟩
  have hlt := (List.getElem?_eq_some_iff.1 hu).1
  have eb := hF.2.1
  have hSb := hF.1
  have hbn := hSn b hSb
  have hfl := oFlat_len hF.len
  have hof : ∀ X : Heap, (∀ id, id ≠ b → id < n → X id = H id) → ∀ id, id < n → ¬ S id → X id = H id := fun X hX id hid hs => hX id (fun e => hs (e ▸ hSb)) hid
  have w0 : ((oRows l m).flatten.drop (at_ * 6))[0]? = some (.int .u8 u.k) := drop_head (oFlat_at hu hab (j := 0) (by decide))
  have b0 : (at_ * 6 + 1 ≤ (oRows l m).flatten.length) = True := by rw [hfl]; simp; omega
  have w2 : ((oRows l m).flatten.drop (at_ * 6 + 2))[0]? = some (ab.1) := drop_head (oFlat_at hu hab (j := 2) (by decide))
  have b2 : (at_ * 6 + 2 + 1 ≤ (oRows l m).flatten.length) = True := by rw [hfl]; simp; omega
  have hcb := @clH_b
  have qb : (b == n) = false := by rw [beq_eq_false_iff_ne]; omega
  refine ac_of_w Tryz.func91 (c := _) rfl (Nat.le_of_ble_eq_true rfl) ?_
  rw [show Tryz.f91.ntmps = 26 from rfl]
  simp only [List.cons_append, List.nil_append]
  by_cases hk : u.k = 1
  · have k1 : (u.k != 1) = false := by simp [hk]
    by_cases hz : (data.length : Int) = c.z
    · have z1 : ((data.length : Int) != c.z) = false := by simp [hz]
      rw [if_pos ⟨hk, hz⟩]
      have tE := And.intro (@upd_upd AV) <| And.intro (@upd_upd (Option Blk)) <| And.intro eb <| And.intro w0 <| And.intro b0 <| And.intro w2 <| And.intro b2 <| And.intro hcb <| And.intro qb <| And.intro k1 <| And.intro z1 <| And.intro Cf.cells.eq_1 <| And.intro byteRows_len <| And.intro Nat.add_zero <| And.intro set_len <| And.intro ty3 <| And.intro ty4 <| And.intro ty5 <| And.intro ty23 <| And.intro ty28 <| And.intro ty72 <| And.intro ty74 <| Tryz.results91; repeat' first | ((with_reducible first | apply w_seq | apply w_region | apply wl_nil | apply wr_nil | apply wr_nilA | apply wr_nilE | apply go_normal | apply go_ret | apply go_exit | apply blk_normal | apply blk_ret | apply blk_here | apply w_block | apply w_skip | apply w_exit | apply w_label)) | ((with_reducible first | apply wz (tok Tryz.prog) | apply wr_z (tok Tryz.prog)); exact zZ; decide) | ((with_reducible first | apply wzg (tok Tryz.prog) | apply wr_zg (tok Tryz.prog)); exact zU; exact zL; exact zU; exact zZ; decide) | ((with_reducible first | apply w_store (tok Tryz.prog)); exact zV; exact zV; exact zS) | ((with_reducible first | apply w_store (tok Tryz.prog)); exact zV; exact zV; (focus ((with_reducible apply hv1); exact zC1; exact zC2; exact zT; exact zU; exact zH; exact zTd; exact zU))) | ((with_reducible first | apply wacall'); exact zV; exact zVs; exact zAs; (focus (first | exact ⟨_, Tryz.func42, rfl, rfl⟩)); (focus (with_unfolding_all first | exact ac42 data hdl _ _)); decide) | ((with_reducible first | apply w_iff'); exact zV; exact zU) | ((with_reducible apply w_ret); (repeat (with_reducible first | apply go_ret | apply blk_ret)); (with_reducible first | apply donef_ret (tok Tryz.prog) | apply doneA_ret (tok Tryz.prog)); exact zT; exact zD) | fail
      all_goals try clear tE
      refine ⟨rfl, .inr ⟨rfl, m.set at_ (ownR n 1 (byteRows data), ab.2), ?_, ?_⟩⟩
      · have h := fro_data (u' := { u with k := 2, d := data }) hF hbn htop hu hab rfl rfl
        have e1 := oFlat_wr (x := .int .u8 2) (u' := { u with k := 2 }) (ab' := ab) hu hab (j := 0) (by decide) rfl
        have e2 := oFlat_wr (x := ownR n 1 (byteRows data)) (u' := { u with k := 2, d := data }) (ab' := (ownR n 1 (byteRows data), ab.2)) (set_at (y := { u with k := 2 }) hu) (set_at (y := ab) hab) (j := 2) (by decide) rfl
        rw [← e1, List.set_set, List.set_set] at e2
        rw [← e2] at h
        simp only [upd_upd]
        exact h
      · refine hof _ (fun id hid hidn => ?_)
        rw [upd_ne _ _ hid]
        repeat rw [upd_ne _ _ hid]
        exact clH_old (by omega)
    · have z1 : ((data.length : Int) != c.z) = true := by simp [hz]
      rw [if_neg (fun h => hz h.2)]
      have tE := And.intro (@upd_upd AV) <| And.intro (@upd_upd (Option Blk)) <| And.intro eb <| And.intro w0 <| And.intro b0 <| And.intro w2 <| And.intro b2 <| And.intro hcb <| And.intro qb <| And.intro k1 <| And.intro z1 <| And.intro Cf.cells.eq_1 <| And.intro byteRows_len <| And.intro Nat.add_zero <| And.intro ty3 <| And.intro ty4 <| And.intro ty5 <| And.intro ty23 <| And.intro ty28 <| And.intro ty72 <| And.intro ty74 <| Tryz.results91; repeat' first | ((with_reducible first | apply w_seq | apply w_region | apply wl_nil | apply wr_nil | apply wr_nilA | apply wr_nilE | apply go_normal | apply go_ret | apply go_exit | apply blk_normal | apply blk_ret | apply blk_here | apply w_block | apply w_skip | apply w_exit | apply w_label)) | ((with_reducible first | apply wz (tok Tryz.prog) | apply wr_z (tok Tryz.prog)); exact zZ; decide) | ((with_reducible first | apply wzg (tok Tryz.prog) | apply wr_zg (tok Tryz.prog)); exact zU; exact zL; exact zU; exact zZ; decide) | ((with_reducible first | apply w_ift'); exact zV; exact zU) | ((with_reducible apply w_ret); (repeat (with_reducible first | apply go_ret | apply blk_ret)); (with_reducible first | apply donef_ret (tok Tryz.prog) | apply doneA_ret (tok Tryz.prog)); exact zT; exact zD) | fail
      all_goals try clear tE
      exact ⟨rfl, .inl ⟨by decide, rfl⟩⟩
  · have k1 : (u.k != 1) = true := by simp [hk]
    rw [if_neg (fun h => hk h.1)]
    have tE := And.intro (@upd_upd AV) <| And.intro (@upd_upd (Option Blk)) <| And.intro eb <| And.intro w0 <| And.intro b0 <| And.intro w2 <| And.intro b2 <| And.intro hcb <| And.intro qb <| And.intro k1 <| And.intro Cf.cells.eq_1 <| And.intro byteRows_len <| And.intro Nat.add_zero <| And.intro ty3 <| And.intro ty4 <| And.intro ty5 <| And.intro ty23 <| And.intro ty28 <| And.intro ty72 <| And.intro ty74 <| Tryz.results91; repeat' first | ((with_reducible first | apply w_seq | apply w_region | apply wl_nil | apply wr_nil | apply wr_nilA | apply wr_nilE | apply go_normal | apply go_ret | apply go_exit | apply blk_normal | apply blk_ret | apply blk_here | apply w_block | apply w_skip | apply w_exit | apply w_label)) | ((with_reducible first | apply wz (tok Tryz.prog) | apply wr_z (tok Tryz.prog)); exact zZ; decide) | ((with_reducible first | apply wskip' | apply wr_skip); exact zU; exact zL; exact zU; decide) | ((with_reducible first | apply w_ift'); exact zV; exact zU) | ((with_reducible apply w_ret); (repeat (with_reducible first | apply go_ret | apply blk_ret)); (with_reducible first | apply donef_ret (tok Tryz.prog) | apply doneA_ret (tok Tryz.prog)); exact zT; exact zD) | fail
    all_goals try clear tE
    exact ⟨rfl, .inl ⟨by decide, rfl⟩⟩
theorem upd_self {α : Type} {f : Nat → α} {i : Nat} {x : α} (h : f i = x) : upd f i x = f := by
  funext j
  by_cases e : j = i
  · subst e; rw [upd_same, h]
  · rw [upd_ne _ _ e]
end Go.Proofs.YtlmighkbeacjnaaGreatDoor


open Go Go.Lg
set_option linter.unusedSimpArgs false
set_option linter.unusedVariables false
set_option maxHeartbeats 4000000
set_option maxRecDepth 20000
namespace Go.Proofs.YtlmighkbeacjnaaGreatDoor
/-- What turning the frame at a place tells: an error, and frames. -/
def turnE (c : Cf) (f : Fs) (at_ : Int) (E : Fr → Int) : Int := if okF c f = true then (if at_ < 0 ∨ at_ ≥ f.l.length then 2 else match f.l[at_.toNat]? with
  | some u => E u
  | none => 2) else 8
def turnF (c : Cf) (f : Fs) (at_ : Int) (E : Fr → Int) (V : Fr → Fr) : Fs := if turnE c f at_ E = 0 then (match f.l[at_.toNat]? with
  | some u => ⟨f.l.set at_.toNat (V u), f.h⟩
  | none => ⟨[], 0⟩) else ⟨[], 0⟩
theorem zero_own (H : Heap) (S : Nat → Prop) (e : Int) : Own H S (.tuple [.agg [.empty, .int .i64 0], .int .i64 e]) (.tuple [.agg (Fs.cells ⟨[], 0⟩), .int .i64 e]) :=
  OwnL.tuple (.cons (OwnL.agg (.cons .nothing (.cons (.int _ _) .nil))) (.cons (.int _ _) .nil))
theorem FrO.own {H : Heap} {S : Nat → Prop} {b : Nat} {l : List Fr} {m : List (AV × AV)} (h : FrO H S b l m) (h0 : 0 < l.length) (hand : Int) : Own H S (.agg [.slice b 0 l.length none 6, .int .i64 hand]) (.agg (Fs.cells ⟨l, hand⟩)) :=
  OwnF.own (f := ⟨l, hand⟩) (.inr ⟨h0, b, m, h.1, rfl, h.2.1, h.2.2.flat⟩)
theorem args_turn62 {c : Cf} {f : Fs} {at_ : Int} {w : AV} {g : FuncId} {cap : List AV} (hw : Pur w) (hcap : ∀ x, x ∈ cap → Pur x) : ∀ x, x ∈ [AV.agg c.cells, .agg f.cells, .int .i64 at_, w, .func (.func g) [] cap] → Pur x := by
  intro x hx
  simp only [List.mem_cons, List.not_mem_nil, or_false] at hx
  rcases hx with rfl | rfl | rfl | rfl | rfl
  · exact cf_pur c
  · exact fsa_pur f
  · exact .int _ _
  · exact hw
  · exact .func (fun _ h => (nomatch h)) hcap
theorem nf90 (c : Cf) (f : Fs) (at_ : Int) (w : AV) (g : FuncId) (cap : List AV) (E : Fr → Int) (V : Fr → Fr) (hl : f.l.length ≤ 1000000) (hd : ∀ x, x ∈ f.l → x.d.length ≤ 1000000 ∧ x.pins.length ≤ 1000000) (hw : Pur w) (hcap : ∀ x, x ∈ cap → Pur x) (hg : Callable Tryz.prog g)
    (hdo : okF c f = true → ∀ (a : Nat) u, at_ = a → f.l[a]? = some u → DoS g w cap f.l a (E u) (V u)) : NF Tryz.prog 90 [.agg c.cells, .agg f.cells, .int .i64 at_, w, .func (.func g) [] cap] (fun r => r = .tuple [.agg (turnF c f at_ E V).cells, .int .i64 (turnE c f at_ E)]) := by
  have h11 := pf43 c f hl (fun x hx => (hd x hx).2)
  have hp := args_turn62 (c := c) (f := f) (at_ := at_) (g := g) hw hcap
  refine nf_of_w0 Tryz.func90 (c := _) rfl rfl (Nat.le_of_ble_eq_true rfl) hp ?_
  rw [show Tryz.f90.ntmps = 46 from rfl]
  cases hok : okF c f with
  | false =>
    have ev : eF c f = 8 := by simp [eF, hok]
    have e1 : turnE c f at_ E = 8 := by simp [turnE, hok]
    have e2 : turnF c f at_ E V = ⟨[], 0⟩ := by simp [turnF, e1]
    rw [e1, e2]
    have tE := And.intro (@upd_upd AV) <| And.intro (@upd_upd (Option Blk)) <| And.intro Cf.cells.eq_1 <| And.intro Fs.cells.eq_1 <| And.intro ev <| And.intro ty3 <| And.intro ty4 <| And.intro ty5 <| And.intro ty23 <| And.intro ty24 <| And.intro ty26 <| And.intro ty28 <| And.intro ty34 <| And.intro ty72 <| And.intro ty74 <| Tryz.results90; repeat' first | ((with_reducible first | apply w_seq | apply w_region | apply wl_nil | apply wr_nil | apply wr_nilA | apply wr_nilE | apply go_normal | apply go_ret | apply go_exit | apply blk_normal | apply blk_ret | apply blk_here | apply w_block | apply w_skip | apply w_exit | apply w_label)) | ((with_reducible first | apply wz (tok Tryz.prog) | apply wr_z (tok Tryz.prog)); exact zZ; decide) | ((with_reducible first | apply w_alloc (tok Tryz.prog)); exact zT; decide) | ((with_reducible first | apply w_store (tok Tryz.prog)); exact zV; exact zV; exact zS) | ((with_reducible first | apply wcall' | apply wr_call); exact zV; exact zVs; exact zAs; (focus (with_unfolding_all first | exact h11)); decide) | ((with_reducible first | apply w_ift'); exact zV; exact zU) | ((with_reducible apply w_ret); (repeat (with_reducible first | apply go_ret | apply blk_ret)); (with_reducible first | apply donef_ret (tok Tryz.prog) | apply doneA_ret (tok Tryz.prog)); exact zT; exact zD) | fail
    all_goals try clear tE
    exact ⟨_, _, rfl, zero_own _ _ 8, rfl⟩
  | true =>
    have ev : eF c f = 0 := by simp [eF, hok]
    by_cases a0 : at_ < 0
    · have a0' : (at_ < 0) = True := eq_true a0
      have e1 : turnE c f at_ E = 2 := by simp [turnE, hok, a0]
      have e2 : turnF c f at_ E V = ⟨[], 0⟩ := by simp [turnF, e1]
      rw [e1, e2]
      have tE := And.intro (@upd_upd AV) <| And.intro (@upd_upd (Option Blk)) <| And.intro Cf.cells.eq_1 <| And.intro Fs.cells.eq_1 <| And.intro ev <| And.intro a0' <| And.intro ty3 <| And.intro ty4 <| And.intro ty5 <| And.intro ty23 <| And.intro ty24 <| And.intro ty26 <| And.intro ty28 <| And.intro ty34 <| And.intro ty72 <| And.intro ty74 <| Tryz.results90; repeat' first | ((with_reducible first | apply w_seq | apply w_region | apply wl_nil | apply wr_nil | apply wr_nilA | apply wr_nilE | apply go_normal | apply go_ret | apply go_exit | apply blk_normal | apply blk_ret | apply blk_here | apply w_block | apply w_skip | apply w_exit | apply w_label)) | ((with_reducible first | apply wz (tok Tryz.prog) | apply wr_z (tok Tryz.prog)); exact zZ; decide) | ((with_reducible first | apply wskip' | apply wr_skip); exact zU; exact zL; exact zU; decide) | ((with_reducible first | apply w_alloc (tok Tryz.prog)); exact zT; decide) | ((with_reducible first | apply w_store (tok Tryz.prog)); exact zV; exact zV; exact zS) | ((with_reducible first | apply wcall' | apply wr_call); exact zV; exact zVs; exact zAs; (focus (with_unfolding_all first | exact h11)); decide) | ((with_reducible first | apply w_ift'); exact zV; exact zU) | ((with_reducible first | apply w_iff'); exact zV; exact zU) | ((with_reducible apply w_ret); (repeat (with_reducible first | apply go_ret | apply blk_ret)); (with_reducible first | apply donef_ret (tok Tryz.prog) | apply doneA_ret (tok Tryz.prog)); exact zT; exact zD) | fail
      all_goals try clear tE
      exact ⟨_, _, rfl, zero_own _ _ 2, rfl⟩
    · have a0' : (at_ < 0) = False := eq_false a0
      by_cases a1 : at_ ≥ f.l.length
      · have a1' : (at_ ≥ (f.l.length : Int)) = True := eq_true a1
        have e1 : turnE c f at_ E = 2 := by rw [turnE, if_pos hok, if_pos (.inr a1)]
        have e2 : turnF c f at_ E V = ⟨[], 0⟩ := by simp [turnF, e1]
        rw [e1, e2]
        have tE := And.intro (@upd_upd AV) <| And.intro (@upd_upd (Option Blk)) <| And.intro Cf.cells.eq_1 <| And.intro Fs.cells.eq_1 <| And.intro ev <| And.intro a0' <| And.intro a1' <| And.intro frRows_len <| And.intro ty3 <| And.intro ty4 <| And.intro ty5 <| And.intro ty23 <| And.intro ty24 <| And.intro ty26 <| And.intro ty28 <| And.intro ty34 <| And.intro ty72 <| And.intro ty74 <| Tryz.results90; repeat' first | ((with_reducible first | apply w_seq | apply w_region | apply wl_nil | apply wr_nil | apply wr_nilA | apply wr_nilE | apply go_normal | apply go_ret | apply go_exit | apply blk_normal | apply blk_ret | apply blk_here | apply w_block | apply w_skip | apply w_exit | apply w_label)) | ((with_reducible first | apply wz (tok Tryz.prog) | apply wr_z (tok Tryz.prog)); exact zZ; decide) | ((with_reducible first | apply wzg (tok Tryz.prog) | apply wr_zg (tok Tryz.prog)); exact zU; exact zL; exact zU; exact zZ; decide) | ((with_reducible first | apply w_alloc (tok Tryz.prog)); exact zT; decide) | ((with_reducible first | apply w_store (tok Tryz.prog)); exact zV; exact zV; exact zS) | ((with_reducible first | apply wcall' | apply wr_call); exact zV; exact zVs; exact zAs; (focus (with_unfolding_all first | exact h11)); decide) | ((with_reducible first | apply w_ift'); exact zV; exact zU) | ((with_reducible first | apply w_iff'); exact zV; exact zU) | ((with_reducible apply w_ret); (repeat (with_reducible first | apply go_ret | apply blk_ret)); (with_reducible first | apply donef_ret (tok Tryz.prog) | apply doneA_ret (tok Tryz.prog)); exact zT; exact zD) | fail
        all_goals try clear tE
        exact ⟨_, _, rfl, zero_own _ _ 2, rfl⟩
      · have a1' : (at_ ≥ (f.l.length : Int)) = False := eq_false a1
        obtain ⟨a, rfl⟩ : ∃ a : Nat, at_ = a := ⟨at_.toNat, by omega⟩
        have hal : a < f.l.length := by omega
        have hu : f.l[a]? = some f.l[a] := List.getElem?_eq_getElem hal
        generalize f.l[a] = u at hu
        have e1 : turnE c f a E = E u := by rw [turnE, if_pos hok, if_neg (by omega), Int.toNat_natCast, hu]
        have e2 : turnF c f a E V = if E u = 0 then ⟨f.l.set a (V u), f.h⟩ else ⟨[], 0⟩ := by rw [turnF, e1, Int.toNat_natCast, hu]
        rw [e1, e2]
        have tE := And.intro (@upd_upd AV) <| And.intro (@upd_upd (Option Blk)) <| And.intro Cf.cells.eq_1 <| And.intro Fs.cells.eq_1 <| And.intro ev <| And.intro a0' <| And.intro a1' <| And.intro frRows_len <| And.intro ty3 <| And.intro ty4 <| And.intro ty5 <| And.intro ty23 <| And.intro ty24 <| And.intro ty26 <| And.intro ty28 <| And.intro ty34 <| And.intro ty72 <| And.intro ty74 <| Tryz.results90; repeat' first | ((with_reducible first | apply w_seq | apply w_region | apply wl_nil | apply wr_nil | apply wr_nilA | apply wr_nilE | apply go_normal | apply go_ret | apply go_exit | apply blk_normal | apply blk_ret | apply blk_here | apply w_block | apply w_skip | apply w_exit | apply w_label)) | ((with_reducible first | apply wz (tok Tryz.prog) | apply wr_z (tok Tryz.prog)); exact zZ; decide) | ((with_reducible first | apply wzg (tok Tryz.prog) | apply wr_zg (tok Tryz.prog)); exact zU; exact zL; exact zU; exact zZ; decide) | ((with_reducible first | apply w_alloc (tok Tryz.prog)); exact zT; decide) | ((with_reducible first | apply wcall' | apply wr_call); exact zV; exact zVs; exact zAs; (focus (with_unfolding_all first | exact h11)); decide) | ((with_reducible first | apply w_iff'); exact zV; exact zU) | fail
        all_goals try clear tE
        (have tE := And.intro (@upd_upd AV) <| And.intro (@upd_upd (Option Blk)) <| And.intro Cf.cells.eq_1 <| Fs.cells.eq_1; (with_reducible apply wacall); exact zV; exact zVs; exact zAs; exact cal40; (focus (with_unfolding_all exact ac40z f hl hd _ _)); decide; clear tE)
        rintro r H' k0 ⟨hn', hold, htop, x, rfl, hown⟩
        have hk0 : 1 ≤ k0 := hn'
        rcases hown with ⟨hz, _⟩ | ⟨hl0, b, m, hb1, rfl, hbH, hm⟩
        · rw [hz] at hal; cases hal
        have hbk : b < k0 := by
          rcases Nat.lt_or_ge b k0 with hx | hx
          · exact hx
          · rw [htop b hx] at hbH; cases hbH
        have hb1 : 1 ≤ b := hb1
        have e0 := hold 0 _ rfl
        have g0 : (0 ≤ (a : Int)) = True := by simp
        have g1 : ((a : Int) < (f.l.length : Int)) = True := by simp; exact hal
        have q0 : ((0 : Nat) == k0) = false := by rw [beq_eq_false_iff_ne]; omega
        have tE := And.intro (@upd_upd AV) <| And.intro (@upd_upd (Option Blk)) <| And.intro e0 <| And.intro g0 <| And.intro g1 <| And.intro q0 <| And.intro ty3 <| And.intro ty4 <| And.intro ty5 <| And.intro ty23 <| And.intro ty24 <| And.intro ty26 <| And.intro ty28 <| And.intro ty34 <| And.intro ty72 <| And.intro ty74 <| Tryz.results90; repeat' first | ((with_reducible first | apply w_seq | apply w_region | apply wl_nil | apply wr_nil | apply wr_nilA | apply wr_nilE | apply go_normal | apply go_ret | apply go_exit | apply blk_normal | apply blk_ret | apply blk_here | apply w_block | apply w_skip | apply w_exit | apply w_label)) | ((with_reducible first | apply wz (tok Tryz.prog) | apply wr_z (tok Tryz.prog)); exact zZ; decide) | ((with_reducible first | apply w_alloc (tok Tryz.prog)); exact zT; decide) | ((with_reducible first | apply w_store (tok Tryz.prog)); exact zV; exact zV; exact zS) | fail
        all_goals try clear tE
        have hF : FrO (upd H' k0 (some (.cells [.slice b 0 f.l.length none 6, .int .i64 f.h] 26))) (fun x => 1 ≤ x ∧ x < k0) b f.l m := by
          obtain ⟨hm1, gg, hm2⟩ := hm
          refine ⟨⟨hb1, hbk⟩, by rw [upd_ne _ _ (by omega)]; exact hbH, hm1, gg, fun j v z hv hz => ?_⟩
          have hmv : ∀ q id c, ((1 ≤ id ∧ id ≠ b) ∧ gg id = q) → H' id = some c → (((1 ≤ id ∧ id < k0) ∧ id ≠ b) ∧ gg id = q) ∧ upd H' k0 (some (.cells [.slice b 0 f.l.length none 6, .int .i64 f.h] 26)) id = some c := fun q id c hid hc => by
            have hlt : id < k0 := by
              rcases Nat.lt_or_ge id k0 with hx' | hx'
              · exact hx'
              · rw [htop id hx'] at hc; cases hc
            exact ⟨⟨⟨⟨hid.1.1, hlt⟩, hid.1.2⟩, hid.2⟩, by rw [upd_ne _ _ (by omega)]; exact hc⟩
          exact ⟨(hm2 j v z hv hz).1.mv (hmv _), (hm2 j v z hv hz).2.mv (hmv _)⟩
        have hcl := hdo hok a u rfl hu _ (k0 + 1) _ b m hF (fun id hid => by omega) (fun id hid => by rw [upd_ne _ _ (by omega)]; exact htop id (by omega))
        have e0k : upd H' k0 (some (.cells [.slice b 0 f.l.length none 6, .int .i64 f.h] 26)) 0 = H' 0 := upd_ne _ _ (by omega)
        have ekk : upd H' k0 (some (.cells [.slice b 0 f.l.length none 6, .int .i64 f.h] 26)) k0 = some (.cells [.slice b 0 f.l.length none 6, .int .i64 f.h] 26) := upd_same _ _ _
        generalize upd H' k0 (some (.cells [.slice b 0 f.l.length none 6, .int .i64 f.h] 26)) = HX at hF hcl e0k ekk
        rw [e0] at e0k
        (have tE := And.intro (@upd_upd AV) <| @upd_upd (Option Blk); (with_reducible apply wacall); exact zV; exact zVs; exact zAs; exact hg; (focus (with_unfolding_all exact hcl)); decide; clear tE)
        rintro r H'' n'' ⟨rfl, hres⟩
        rcases hres with ⟨hE, rfl⟩ | ⟨hE, m', hF', hkeep⟩
        · have hE' : (E u != 0) = true := by simpa using hE
          have tE := And.intro (@upd_upd AV) <| And.intro (@upd_upd (Option Blk)) <| And.intro e0k <| And.intro ekk <| And.intro hE' <| And.intro ty3 <| And.intro ty4 <| And.intro ty5 <| And.intro ty23 <| And.intro ty24 <| And.intro ty26 <| And.intro ty28 <| And.intro ty34 <| And.intro ty72 <| And.intro ty74 <| Tryz.results90; repeat' first | ((with_reducible first | apply w_seq | apply w_region | apply wl_nil | apply wr_nil | apply wr_nilA | apply wr_nilE | apply go_normal | apply go_ret | apply go_exit | apply blk_normal | apply blk_ret | apply blk_here | apply w_block | apply w_skip | apply w_exit | apply w_label)) | ((with_reducible first | apply wz (tok Tryz.prog) | apply wr_z (tok Tryz.prog)); exact zZ; decide) | ((with_reducible first | apply w_store (tok Tryz.prog)); exact zV; exact zV; exact zS) | ((with_reducible first | apply w_ift'); exact zV; exact zU) | ((with_reducible apply w_ret); (repeat (with_reducible first | apply go_ret | apply blk_ret)); (with_reducible first | apply donef_ret (tok Tryz.prog) | apply doneA_ret (tok Tryz.prog)); exact zT; exact zD) | fail
          all_goals try clear tE
          rw [if_neg hE]
          exact ⟨_, _, rfl, zero_own _ _ _, rfl⟩
        · have hE' : (E u != 0) = false := by simp [hE]
          have f0 := hkeep 0 (by omega) (fun h => by omega)
          have fk := hkeep k0 (by omega) (fun h => by omega)
          rw [e0k] at f0
          rw [ekk] at fk
          have tE := And.intro (@upd_upd AV) <| And.intro (@upd_upd (Option Blk)) <| And.intro f0 <| And.intro fk <| And.intro hE' <| And.intro ty3 <| And.intro ty4 <| And.intro ty5 <| And.intro ty23 <| And.intro ty24 <| And.intro ty26 <| And.intro ty28 <| And.intro ty34 <| And.intro ty72 <| And.intro ty74 <| Tryz.results90; repeat' first | ((with_reducible first | apply w_seq | apply w_region | apply wl_nil | apply wr_nil | apply wr_nilA | apply wr_nilE | apply go_normal | apply go_ret | apply go_exit | apply blk_normal | apply blk_ret | apply blk_here | apply w_block | apply w_skip | apply w_exit | apply w_label)) | ((with_reducible first | apply wz (tok Tryz.prog) | apply wr_z (tok Tryz.prog)); exact zZ; decide) | ((with_reducible first | apply w_store (tok Tryz.prog)); exact zV; exact zV; exact zS) | ((with_reducible first | apply w_iff'); exact zV; exact zU) | ((with_reducible apply w_ret); (repeat (with_reducible first | apply go_ret | apply blk_ret)); (with_reducible first | apply donef_ret (tok Tryz.prog) | apply doneA_ret (tok Tryz.prog)); exact zT; exact zD) | fail
          all_goals try clear tE
          rw [if_pos hE, hE]
          have ho := FrO.own hF' (by rw [List.length_set]; exact hl0) f.h
          rw [List.length_set] at ho
          refine ⟨_, _, rfl, OwnL.tuple (.cons (ho.mv (fun id c hid hc => ⟨trivial, ?_⟩)) (.cons (.int _ _) .nil)), rfl⟩
          rw [upd_ne _ _ (by omega)]; exact hc
end Go.Proofs.YtlmighkbeacjnaaGreatDoor


open Go Go.Lg
set_option linter.unusedSimpArgs false
set_option linter.unusedVariables false
set_option maxHeartbeats 4000000
set_option maxRecDepth 20000
namespace Go.Proofs.YtlmighkbeacjnaaGreatDoor
end Go.Proofs.YtlmighkbeacjnaaGreatDoor


open Go Go.Lg
set_option linter.unusedSimpArgs false
set_option linter.unusedVariables false
set_option maxHeartbeats 4000000
set_option maxRecDepth 20000
namespace Go.Proofs.YtlmighkbeacjnaaGreatDoor
theorem good_cl {c : Cf} (h : c.good = true) : (1 ≤ c.cl ∧ c.cl ≤ 4) ∧ (1 ≤ c.z ∧ c.z ≤ 32) ∧ (1 ≤ c.p ∧ c.p ≤ 64) := by
  simp [Cf.good, Cf.ok, Cf.spans, inB] at h
  omega
def fillE (c : Cf) (data : List UInt8) (u : Fr) : Int := if u.k = 1 ∧ (data.length : Int) = c.z then 0 else 2
def fillV (data : List UInt8) (u : Fr) : Fr := { u with k := 2, d := data }
theorem nf55 (c : Cf) (f : Fs) (at_ : Int) (data : List UInt8) (hl : f.l.length ≤ 1000000) (hd : ∀ x, x ∈ f.l → x.d.length ≤ 1000000 ∧ x.pins.length ≤ 1000000) (hdl : data.length ≤ 1000000) : NF Tryz.prog 55 [.agg c.cells, .agg f.cells, .int .i64 at_, .view (byteRows data)] (fun r => r = .tuple [.agg (turnF c f at_ (fillE c data) (fillV data)).cells, .int .i64 (turnE c f at_ (fillE c data))]) := by
  have hcall := nf90 c f at_ (.view (byteRows data)) 91 [.vptr c.cells] (fillE c data) (fillV data) hl hd (byteRows_pur data) (by
    intro x hx
    simp only [List.mem_cons, List.not_mem_nil, or_false] at hx
    subst hx; exact .vptr (cells_pur c)) ⟨_, Tryz.func91, rfl, rfl⟩ (fun hok a u hat hu => do91 c data hdl hu)
  generalize turnF c f at_ (fillE c data) (fillV data) = FF at hcall ⊢
  generalize turnE c f at_ (fillE c data) = EE at hcall ⊢
  refine nf_of_w0 Tryz.func55 (c := _) rfl rfl (Nat.le_of_ble_eq_true rfl) (by
    intro x hx
    simp only [List.mem_cons, List.not_mem_nil, or_false] at hx
    rcases hx with rfl | rfl | rfl | rfl
    · exact cf_pur c
    · exact fsa_pur f
    · exact .int _ _
    · exact byteRows_pur data) ?_
  rw [show Tryz.f55.ntmps = 18 from rfl]
  have hfp : ∀ x, x ∈ f.cells → Pur x := fs_pur f
  have tE := And.intro (@upd_upd AV) <| And.intro (@upd_upd (Option Blk)) <| And.intro Cf.cells.eq_1 <| And.intro Fs.cells.eq_1 <| And.intro ty3 <| And.intro ty4 <| And.intro ty5 <| And.intro ty23 <| And.intro ty24 <| And.intro ty26 <| And.intro ty28 <| And.intro ty72 <| And.intro ty74 <| Tryz.results55; repeat' first | ((with_reducible first | apply w_seq | apply w_region | apply wl_nil | apply wr_nil | apply wr_nilA | apply wr_nilE | apply go_normal | apply go_ret | apply go_exit | apply blk_normal | apply blk_ret | apply blk_here | apply w_block | apply w_skip | apply w_exit | apply w_label)) | ((with_reducible first | apply wz (tok Tryz.prog) | apply wr_z (tok Tryz.prog)); exact zZ; decide) | ((with_reducible first | apply w_alloc (tok Tryz.prog)); exact zT; decide) | fail
  all_goals try clear tE
  (have tE := And.intro (@upd_upd AV) <| And.intro (@upd_upd (Option Blk)) <| And.intro Cf.cells.eq_1 <| Fs.cells.eq_1; (with_reducible apply wacall); exact zV; exact zVs; exact zAs; exact ⟨_, Tryz.func90, rfl, rfl⟩; (focus (with_unfolding_all exact hcall.ac _ _)); decide; clear tE)
  rintro r H' n' ⟨hn', hold, htop, x, y, rfl, hown, rfl⟩
  obtain ⟨xs, rfl, hxs⟩ := hown.tuple_inv
  obtain ⟨x1, r1, rfl, ho1, hr1⟩ := hxs.cons_inv
  obtain ⟨x2, r2, rfl, ho2, hr2⟩ := hr1.cons_inv
  obtain rfl := hr2.nil_inv
  obtain rfl := ho2.int_inv
  obtain ⟨ys, rfl, hys⟩ := ho1.agg_inv
  obtain ⟨y1, s1, rfl, hy1, hs1⟩ := hys.cons_inv
  obtain ⟨y2, s2, rfl, hy2, hs2⟩ := hs1.cons_inv
  obtain rfl := hs2.nil_inv
  obtain rfl := hy2.int_inv
  have e0 := hold 0 _ rfl
  rcases own_shape hy1 with rfl | ⟨_, _, _, _, _, rfl⟩
  all_goals
    have tE := And.intro (@upd_upd AV) <| And.intro (@upd_upd (Option Blk)) <| And.intro e0 <| And.intro ty3 <| And.intro ty4 <| And.intro ty5 <| And.intro ty23 <| And.intro ty24 <| And.intro ty26 <| And.intro ty28 <| And.intro ty72 <| And.intro ty74 <| Tryz.results55; repeat' first | ((with_reducible first | apply w_seq | apply w_region | apply wl_nil | apply wr_nil | apply wr_nilA | apply wr_nilE | apply go_normal | apply go_ret | apply go_exit | apply blk_normal | apply blk_ret | apply blk_here | apply w_block | apply w_skip | apply w_exit | apply w_label)) | ((with_reducible first | apply wz (tok Tryz.prog) | apply wr_z (tok Tryz.prog)); exact zZ; decide) | ((with_reducible first | apply w_store (tok Tryz.prog)); exact zV; exact zV; exact zS) | ((with_reducible apply w_ret); (repeat (with_reducible first | apply go_ret | apply blk_ret)); (with_reducible first | apply donef_ret (tok Tryz.prog) | apply doneA_ret (tok Tryz.prog)); exact zT; exact zD) | fail
    all_goals try clear tE
    refine ⟨_, _, rfl, OwnL.tuple (.cons (OwnL.agg (.cons (hy1.mv (fun id c hid hc => ⟨trivial, ?_⟩)) (.cons (.int _ _) .nil))) (.cons (.int _ _) .nil)), rfl⟩
    have hid : 1 ≤ id := hid
    rw [upd_ne _ _ (by omega)]; exact hc
end Go.Proofs.YtlmighkbeacjnaaGreatDoor


open Go Go.Lg
set_option linter.unusedSimpArgs false
set_option linter.unusedVariables false
set_option maxHeartbeats 4000000
set_option maxRecDepth 20000
namespace Go.Proofs.YtlmighkbeacjnaaGreatDoor
/-- No two frames hold one page. -/
def apart (l : List Fr) : Prop := ∀ (i j : Nat) x y, i < j → l[i]? = some x → l[j]? = some y → x.k ≠ 0 → y.k ≠ 0 → x.p ≠ y.p
theorem okL_iff {c : Cf} : ∀ {l : List Fr} {s : List Int}, okL c s l = true ↔ (∀ x, x ∈ l → mayF c x = true) ∧ (∀ x, x ∈ l → x.k ≠ 0 → x.p ∉ s) ∧ apart l
  | [], s => by
    refine ⟨fun _ => ⟨fun x h => (by cases h), fun x h => (by cases h), fun i j x y _ h => by simp at h⟩, fun _ => rfl⟩
  | x :: l, s => by
    simp only [okL, Bool.and_eq_true]
    by_cases hk : x.k = 0
    · have hk' : (x.k == 0) = true := by simpa using hk
      rw [hk', cond_true, okL_iff (l := l) (s := s)]
      constructor
      · rintro ⟨h1, h2, h3, h4⟩
        refine ⟨fun y hy => ?_, fun y hy hn => ?_, fun i j u v hij hu hv hku hkv => ?_⟩
        · rcases List.mem_cons.1 hy with rfl | hy
          · exact h1
          · exact h2 y hy
        · rcases List.mem_cons.1 hy with rfl | hy
          · exact absurd hk hn
          · exact h3 y hy hn
        · cases j with
          | zero => omega
          | succ j =>
            cases i with
            | zero => simp at hu; subst hu; exact absurd hk hku
            | succ i => exact h4 i j u v (by omega) (by simpa using hu) (by simpa using hv) hku hkv
      · rintro ⟨h1, h2, h3⟩
        exact ⟨h1 x (by simp), fun y hy => h1 y (by simp [hy]), fun y hy => h2 y (by simp [hy]), fun i j u v hij hu hv => h3 (i + 1) (j + 1) u v (by omega) (by simpa using hu) (by simpa using hv)⟩
    · have hk' : (x.k == 0) = false := by simpa using hk
      rw [hk', cond_false]
      simp only [Bool.and_eq_true]
      rw [okL_iff (l := l) (s := s ++ [x.p])]
      constructor
      · rintro ⟨h1, h5, h2, h3, h4⟩
        have h5 : x.p ∉ s := by simpa using h5
        refine ⟨fun y hy => ?_, fun y hy hn => ?_, fun i j u v hij hu hv hku hkv => ?_⟩
        · rcases List.mem_cons.1 hy with rfl | hy
          · exact h1
          · exact h2 y hy
        · rcases List.mem_cons.1 hy with rfl | hy
          · exact h5
          · exact fun h => h3 y hy hn (by simp [h])
        · cases j with
          | zero => omega
          | succ j =>
            cases i with
            | zero =>
              simp at hu; subst hu
              intro e
              exact h3 v (List.mem_of_getElem? (by simpa using hv)) hkv (by simp [e])
            | succ i => exact h4 i j u v (by omega) (by simpa using hu) (by simpa using hv) hku hkv
      · rintro ⟨h1, h2, h3⟩
        refine ⟨h1 x (by simp), by simpa using h2 x (by simp) hk, fun y hy => h1 y (by simp [hy]), fun y hy hn h => ?_, fun i j u v hij hu hv => h3 (i + 1) (j + 1) u v (by omega) (by simpa using hu) (by simpa using hv)⟩
        rw [List.mem_append] at h
        rcases h with h | h
        · exact h2 y (by simp [hy]) hn h
        · obtain ⟨j, hj⟩ := List.mem_iff_getElem?.1 hy
          exact h3 0 (j + 1) x y (by omega) rfl (by simpa using hj) hk hn (Eq.symm (a := y.p) (b := x.p) (by simpa using h))
/-- Frames stay apart where one is turned, if its page is in no other one. -/
theorem apart_set {l : List Fr} {a : Nat} {u v : Fr} (h : apart l) (hu : l[a]? = some u) (hv : v.k ≠ 0 → ∀ (j : Nat) y, j ≠ a → l[j]? = some y → y.k ≠ 0 → y.p ≠ v.p) : apart (l.set a v) := by
  intro i j x y hij hx hy hkx hky
  rw [List.getElem?_set] at hx hy
  have hal := (List.getElem?_eq_some_iff.1 hu).1
  by_cases ei : a = i
  · subst ei
    rw [if_pos rfl, if_pos hal] at hx; cases hx
    rw [if_neg (by omega)] at hy
    exact fun e => hv hkx j y (by omega) hy hky e.symm
  · rw [if_neg ei] at hx
    by_cases ej : a = j
    · subst ej
      rw [if_pos rfl, if_pos hal] at hy; cases hy
      exact hv hky i x (by omega) hx hkx
    · rw [if_neg ej] at hy
      exact h i j x y hij hx hy hkx hky
theorem apart_same {l : List Fr} {a : Nat} {u v : Fr} (h : apart l) (hu : l[a]? = some u) (hp : v.p = u.p) (hk : v.k ≠ 0 → u.k ≠ 0) : apart (l.set a v) :=
  apart_set h hu fun hkv j y hj hy hky => by
    rw [hp]
    rcases Nat.lt_or_ge j a with h1 | h1
    · exact h j a y u h1 hy hu hky (hk hkv)
    · exact fun e => h a j u y (by omega) hu hy (hk hkv) hky e.symm
/-- What a law of frames asks of an answer. -/
structure StayP (c : Cf) (f : Fs) (at_ : Int) (F : Fs) (e : Int) : Prop where
  bad : e ≠ 0 → F.l = []
  good : e = 0 → ∃ (a : Nat) (u v : Fr), at_ = a ∧ f.l[a]? = some u ∧ F = ⟨f.l.set a v, f.h⟩ ∧ okF c F = true
theorem stay {c : Cf} {f : Fs} {at_ : Int} {E : Fr → Int} {V : Fr → Fr} (h : okF c f = true → ∀ (a : Nat) u, at_ = a → f.l[a]? = some u → mayF c u = true → E u = 0 → mayF c (V u) = true ∧ apart (f.l.set a (V u))) : StayP c f at_ (turnF c f at_ E V) (turnE c f at_ E) := by
  refine ⟨fun he => by rw [turnF, if_neg he], fun he => ?_⟩
  have he' := he
  unfold turnE at he
  split at he
  · rename_i hok
    split at he
    · cases he
    · rename_i hr
      obtain ⟨a, rfl⟩ : ∃ a : Nat, at_ = a := ⟨at_.toNat, by omega⟩
      rw [Int.toNat_natCast] at he
      split at he
      · rename_i u hu
        obtain ⟨k1, k2, k3, k4, k5⟩ := okF_parts hok
        obtain ⟨o1, o2, o3⟩ := okL_iff.1 k5
        obtain ⟨m1, m2⟩ := h hok a u rfl hu (o1 u (List.mem_of_getElem? hu)) he
        have hF : turnF c f (a : Int) E V = ⟨f.l.set a (V u), f.h⟩ := by rw [turnF, if_pos he', Int.toNat_natCast, hu]
        refine ⟨a, u, V u, rfl, hu, hF, ?_⟩
        rw [hF]
        have hokL : okL c [] (f.l.set a (V u)) = true := by
          refine okL_iff.2 ⟨fun x hx => ?_, fun x _ _ h => (by cases h), m2⟩
          rcases List.mem_or_eq_of_mem_set hx with hx | rfl
          · exact o1 x hx
          · exact m1
        simp only [okF, okS, List.length_set, k1, k2, hokL, Bool.and_true, Bool.true_and, decide_true]
        simp; omega
      · cases he
  · cases he
theorem okF_apart {c : Cf} {f : Fs} (h : okF c f = true) : apart f.l := (okL_iff.1 (okF_parts h).2.2.2.2).2.2
theorem stay_fill (c : Cf) (f : Fs) (at_ : Int) (data : List UInt8) : StayP c f at_ (turnF c f at_ (fillE c data) (fillV data)) (turnE c f at_ (fillE c data)) := by
  refine stay fun hok a u hat hu hm hE => ?_
  unfold fillE at hE
  split at hE
  · rename_i h
    refine ⟨?_, apart_same (okF_apart hok) hu rfl (fun _ => by rw [h.1]; decide)⟩
    simp [mayF, fillV, wildP, pinned, h.1, h.2] at hm ⊢
    simp_all
  · cases hE
end Go.Proofs.YtlmighkbeacjnaaGreatDoor


