/- Frames in own memory, one of which is turned. What turns one frame of frames in own memory. frames.turn: an answer in new memory. The functions that turn a frame: answers in new memory. The six functions that turn a frame: answers in new memory. What may be stays so. Plain. -/
import Derived.Test.YtlmighkbeacjnaaGreatDoorLm6
import Derived.Test.YtlmighkbeacjnaaGreatDoorYc
import Derived.Test.YtlmighkbeacjnaaGreatDoorLm5

open Go Go.Lg
set_option linter.unusedSimpArgs false
set_option linter.unusedVariables false
set_option maxHeartbeats 4000000
set_option maxRecDepth 20000
namespace Go.Proofs.YtlmighkbeacjnaaGreatDoor
/-- Frames whose list is the block 'b', all of ids in 'S'. -/
def FrO (H : Heap) (S : Nat → Prop) (b : Nat) (l : List Fr) (m : List (AV × AV)) : Prop := S b ∧ H b = some (.cells (oRows l m).flatten 74) ∧ OwnABz H (fun x => S x ∧ x ≠ b) l m
theorem oRows_set2 {l : List Fr} {m : List (AV × AV)} {i : Nat} {u : Fr} {ab : AV × AV} (u' : Fr) (ab' : AV × AV) (h : l[i]? = some u) (h' : m[i]? = some ab) : (oRows l m).set i (oRow u' ab') = oRows (l.set i u') (m.set i ab') := by
  refine List.ext_getElem? fun j => ?_
  have h1 := (List.getElem?_eq_some_iff.1 h).1
  have h2 := (List.getElem?_eq_some_iff.1 h').1
  rw [List.getElem?_set, oRows, oRows, List.getElem?_zipWith, List.getElem?_zipWith, List.getElem?_set, List.getElem?_set]
  by_cases e : i = j
  · subst e
    simp only [if_true, List.length_zipWith, if_pos h1, if_pos h2, if_pos (show i < min l.length m.length by omega)]
  · simp only [if_neg e]
/-- Cells of a frame in own memory, set one by one. -/
theorem oFlat_wr {l : List Fr} {m : List (AV × AV)} {i : Nat} {u : Fr} {ab : AV × AV} (h : l[i]? = some u) (h' : m[i]? = some ab) {j : Nat} (hj : j < 6) {x : AV} {u' : Fr} {ab' : AV × AV} (e : (oRow u ab).set j x = oRow u' ab') : (oRows l m).flatten.set (i * 6 + j) x = (oRows (l.set i u') (m.set i ab')).flatten := by
  rw [flat_set (oRows_row l m) x (oRows_at h h') hj, e, oRows_set2 u' ab' h h']
theorem set_at {α : Type} {l : List α} {i : Nat} {x y : α} (h : l[i]? = some x) : (l.set i y)[i]? = some y := List.getElem?_set_self (List.getElem?_eq_some_iff.1 h).1
theorem set_id {α : Type} {l : List α} {i : Nat} {x : α} (h : l[i]? = some x) : l.set i x = l := by
  refine List.ext_getElem? fun j => ?_
  rw [List.getElem?_set]
  split
  · rename_i e; subst e
    rw [if_pos (List.getElem?_eq_some_iff.1 h).1, h]
  · rfl
theorem FrO.len {H : Heap} {S : Nat → Prop} {b : Nat} {l : List Fr} {m : List (AV × AV)} (h : FrO H S b l m) : m.length = l.length := h.2.2.1
theorem FrO.mono {H : Heap} {S S' : Nat → Prop} {b : Nat} {l : List Fr} {m : List (AV × AV)} (hS : ∀ x, S x → S' x) (h : FrO H S b l m) : FrO H S' b l m := by
  obtain ⟨h1, h2, h3, g, h4⟩ := h
  exact ⟨hS _ h1, h2, h3, g, fun j u ab hu hab => ⟨(h4 j u ab hu hab).1.mono (fun _ h => ⟨⟨hS _ h.1.1, h.1.2⟩, h.2⟩) (fun _ _ _ h => h), (h4 j u ab hu hab).2.mono (fun _ h => ⟨⟨hS _ h.1.1, h.1.2⟩, h.2⟩) (fun _ _ _ h => h)⟩⟩
theorem fro_scalar {H : Heap} {S : Nat → Prop} {b i : Nat} {l : List Fr} {m : List (AV × AV)} {u u' : Fr} {ab : AV × AV} (h : FrO H S b l m) (hu : l[i]? = some u) (hab : m[i]? = some ab) (hd : u'.d = u.d) (hp : u'.pins = u.pins) :
    FrO (upd H b (some (.cells (oRows (l.set i u') (m.set i ab)).flatten 74))) S b (l.set i u') (m.set i ab) := by
  obtain ⟨h1, h2, h3, g, h4⟩ := h
  refine ⟨h1, upd_same _ _ _, by rw [List.length_set, List.length_set]; exact h3, g, fun j v w hv hw => ?_⟩
  have key : ∀ q id c, ((S id ∧ id ≠ b) ∧ g id = q) → H id = some c → ((S id ∧ id ≠ b) ∧ g id = q) ∧ upd H b (some (.cells (oRows (l.set i u') (m.set i ab)).flatten 74)) id = some c := fun q id c hid hc => ⟨hid, by rw [upd_ne _ _ hid.1.2]; exact hc⟩
  rw [set_id hab] at hw
  by_cases e : i = j
  · subst e
    rw [set_at hu] at hv; cases hv
    have := h4 i u w hu hw
    rw [hd, hp]
    exact ⟨this.1.mv (key _), this.2.mv (key _)⟩
  · rw [List.getElem?_set_ne e] at hv
    have := h4 j v w hv hw
    exact ⟨this.1.mv (key _), this.2.mv (key _)⟩
/-- One has other bytes, or other pins, in a new block. -/
theorem fro_new {H H1 : Heap} {S : Nat → Prop} {b n i : Nat} {l : List Fr} {m : List (AV × AV)} {u u' : Fr} {ab ab' : AV × AV} (h : FrO H S b l m) (hb : b < n) (htop : ∀ id, n ≤ id → H id = none) (h1 : ∀ id, id < n → H1 id = H id) (hu : l[i]? = some u) (hab : m[i]? = some ab)
    (hnew : (Own H1 (fun x => x = n) ab'.1 (.view (byteRows u'.d)) ∧ ab'.2 = ab.2 ∧ u'.pins = u.pins) ∨ (ab'.1 = .empty ∧ u'.d = [] ∧ Own H1 (fun x => x = n) ab'.2 (.view (intRows u'.pins)))) :
    FrO (upd H1 b (some (.cells (oRows (l.set i u') (m.set i ab')).flatten 74))) (fun x => S x ∨ x = n) b (l.set i u') (m.set i ab') := by
  obtain ⟨g1, g2, g3, g, g4⟩ := h
  have lt : ∀ id c, H id = some c → id < n := fun id c hc => by
    rcases Nat.lt_or_ge id n with h | h
    · exact h
    · rw [htop id h] at hc; cases hc
  have key : ∀ q z id c, ((S id ∧ id ≠ b) ∧ g id = q) → H id = some c → (((S id ∨ id = n) ∧ id ≠ b) ∧ (if id = n then z else g id) = q) ∧ upd H1 b (some (.cells (oRows (l.set i u') (m.set i ab')).flatten 74)) id = some c := fun q z id c hid hc => by
    have := lt id c hc
    exact ⟨⟨⟨.inl hid.1.1, hid.1.2⟩, by rw [if_neg (by omega)]; exact hid.2⟩, by rw [upd_ne _ _ hid.1.2, h1 id this]; exact hc⟩
  have knew : ∀ z id c, id = n → H1 id = some c → (((S id ∨ id = n) ∧ id ≠ b) ∧ (if id = n then z else g id) = z) ∧ upd H1 b (some (.cells (oRows (l.set i u') (m.set i ab')).flatten 74)) id = some c := fun z id c hid hc => by
    exact ⟨⟨⟨.inr hid, by omega⟩, by rw [if_pos hid]⟩, by rw [upd_ne _ _ (by omega)]; exact hc⟩
  rcases hnew with ⟨o1, o2, o3⟩ | ⟨o1, o2, o3⟩
  · refine ⟨.inl g1, upd_same _ _ _, by rw [List.length_set, List.length_set]; exact g3, fun x => if x = n then 2 * i else g x, fun j v w hv hw => ?_⟩
    by_cases e : i = j
    · subst e
      rw [set_at hu] at hv; cases hv
      rw [set_at hab] at hw; cases hw
      have := g4 i u ab hu hab
      exact ⟨o1.mv (knew (2 * i)), by rw [o2, o3]; exact this.2.mv (key _ _)⟩
    · rw [List.getElem?_set_ne e] at hv hw
      have := g4 j v w hv hw
      exact ⟨this.1.mv (key _ _), this.2.mv (key _ _)⟩
  · refine ⟨.inl g1, upd_same _ _ _, by rw [List.length_set, List.length_set]; exact g3, fun x => if x = n then 2 * i + 1 else g x, fun j v w hv hw => ?_⟩
    by_cases e : i = j
    · subst e
      rw [set_at hu] at hv; cases hv
      rw [set_at hab] at hw; cases hw
      exact ⟨by rw [o1, o2]; exact .nothing, o3.mv (knew (2 * i + 1))⟩
    · rw [List.getElem?_set_ne e] at hv hw
      have := g4 j v w hv hw
      exact ⟨this.1.mv (key _ _), this.2.mv (key _ _)⟩
/-- A cell of pins in own memory. -/
theorem ints_own {H : Heap} {S : Nat → Prop} {x : AV} {ns : List Int} (h0 : 0 < ns.length) (h : Own H S x (.view (intRows ns))) : ∃ id off cap cs e, x = .slice id off ns.length cap 1 ∧ S id ∧ H id = some (.cells cs e) ∧ off + ns.length ≤ cs.length ∧ ∀ (i : Nat) v, ns[i]? = some v → cs[off + i]? = some (.int .i64 v) := by
  obtain ⟨id, off, cap, cs, e, h1, h2, h3, h4, h5⟩ := Own.view_inv (sz := 1) (intRows_row ns) (by rw [intRows_len]; exact h0) h
  rw [intRows_len] at h1 h4
  refine ⟨id, off, cap, cs, e, h1, h2, h3, by omega, fun i v hv => ?_⟩
  have hi := (List.getElem?_eq_some_iff.1 hv).1
  have hx : cs[off + i]? = some (cs[off + i]'(by omega)) := List.getElem?_eq_getElem _
  have hf : (intRows ns).flatten[i]? = some (.int .i64 v) := by
    have := flat_at (intRows_row ns) (int_row hv) (j := 0) (by decide)
    simpa using this
  rw [hx, (h5 i _ _ hx hf).int_inv]
theorem ints_mk {H : Heap} {S : Nat → Prop} {id off : Nat} {cap : Option Nat} {cs : List AV} {e : TypeId} {ns : List Int} (hS : S id) (hH : H id = some (.cells cs e)) (hl : off + ns.length ≤ cs.length) (h : ∀ (i : Nat) v, ns[i]? = some v → cs[off + i]? = some (.int .i64 v)) : Own H S (.slice id off ns.length cap 1) (.view (intRows ns)) := by
  have hfl : (intRows ns).flatten.length = ns.length * 1 := by rw [flat_len (intRows_row ns), intRows_len]
  have := Own.slice (H := H) (S := S) (cap := cap) (off := off) (len := ns.length) (sz := 1) (ys := (intRows ns).flatten) hS hH (by omega) hfl (fun i x y hx hy => ?_)
  · rw [← intRows_len ns, chunk_flatten (intRows_row ns), intRows_len] at this
    exact this
  · have hi : i < ns.length := by have := (List.getElem?_eq_some_iff.1 hy).1; omega
    have hv : ns[i]? = some ns[i] := List.getElem?_eq_getElem hi
    have hf := flat_at (intRows_row ns) (int_row hv) (j := 0) (by decide)
    have hf : (intRows ns).flatten[i]? = some (.int .i64 ns[i]) := by simpa using hf
    rw [h i _ hv] at hx
    rw [hf] at hy
    cases hx; cases hy
    exact .int _ _
/-- One has a pin more, or less, in its block. -/
theorem fro_pins {H : Heap} {S : Nat → Prop} {b i id off c : Nat} {cap : Option Nat} {cs : List AV} {e : TypeId} {l : List Fr} {m : List (AV × AV)} {u u' : Fr} {ab : AV × AV} {v : Int} (h : FrO H S b l m) (hu : l[i]? = some u) (hab : m[i]? = some ab) (hc : c < u.pins.length)
    (hx : ab.2 = .slice id off u.pins.length cap 1) (hH : H id = some (.cells cs e)) (hcs : off + u.pins.length ≤ cs.length) (hat : ∀ (i : Nat) v, u.pins[i]? = some v → cs[off + i]? = some (.int .i64 v)) (hid : ∃ g : Nat → Nat, g id = 2 * i + 1 ∧ ∀ (j : Nat) u ab, l[j]? = some u → m[j]? = some ab → Own H (fun x => (S x ∧ x ≠ b) ∧ g x = 2 * j) ab.1 (.view (byteRows u.d)) ∧ Own H (fun x => (S x ∧ x ≠ b) ∧ g x = 2 * j + 1) ab.2 (.view (intRows u.pins))) (hlo : S id ∧ id ≠ b)
    (hd : u'.d = u.d) (hp : u'.pins = u.pins.set c v) : FrO (upd (upd H id (some (.cells (cs.set (off + c) (.int .i64 v)) e))) b (some (.cells (oRows (l.set i u') (m.set i ab)).flatten 74))) S b (l.set i u') (m.set i ab) := by
  obtain ⟨g1, g2, g3, _⟩ := h
  obtain ⟨g, gid, g4⟩ := hid
  refine ⟨g1, upd_same _ _ _, by rw [List.length_set, List.length_set]; exact g3, g, fun j w z hw hz => ?_⟩
  have key : ∀ q, q ≠ 2 * i + 1 → ∀ x k, ((S x ∧ x ≠ b) ∧ g x = q) → H x = some k → ((S x ∧ x ≠ b) ∧ g x = q) ∧ upd (upd H id (some (.cells (cs.set (off + c) (.int .i64 v)) e))) b (some (.cells (oRows (l.set i u') (m.set i ab)).flatten 74)) x = some k := fun q hq x k hx hk =>
    ⟨hx, by rw [upd_ne _ _ hx.1.2, upd_ne _ _ (fun e => hq (by rw [← hx.2, e, gid]))]; exact hk⟩
  rw [set_id hab] at hz
  by_cases eij : i = j
  · subst eij
    rw [set_at hu] at hw; cases hw
    rw [hab] at hz; cases hz
    have := g4 i u ab hu hab
    rw [hd, hp]
    refine ⟨this.1.mv (key _ (by omega)), ?_⟩
    rw [hx]
    have hl : (u.pins.set c v).length = u.pins.length := List.length_set
    rw [← hl]
    refine ints_mk ⟨hlo, gid⟩ (by rw [upd_ne _ _ hlo.2, upd_same]) (by rw [hl, List.length_set]; exact hcs) (fun k y hy => ?_)
    rw [List.getElem?_set] at hy ⊢
    by_cases ec : c = k
    · subst ec
      rw [if_pos rfl, if_pos hc] at hy; cases hy
      rw [if_pos rfl, if_pos (by omega)]
    · rw [if_neg ec] at hy
      rw [if_neg (by omega)]
      exact hat k y hy
  · rw [List.getElem?_set_ne eij] at hw
    have := g4 j w z hw hz
    exact ⟨this.1.mv (key _ (by omega)), this.2.mv (key _ (by omega))⟩
end Go.Proofs.YtlmighkbeacjnaaGreatDoor


open Go Go.Lg
set_option linter.unusedSimpArgs false
set_option linter.unusedVariables false
set_option maxHeartbeats 4000000
set_option maxRecDepth 20000
namespace Go.Proofs.YtlmighkbeacjnaaGreatDoor
theorem tkG2 : TOK Tryz.prog (tyOf Tryz.prog) := tok Tryz.prog
def tfG20 := PLift.up (aI ty3 <| aI ty4 <| aI ty5 <| aI ty28 <| aI ty72 <| aI ty74 <| Tryz.results134)
def tfG21 := PLift.up (aI ty3 <| aI ty4 <| aI ty5 <| aI ty23 <| aI ty28 <| aI ty72 <| aI ty74 <| Tryz.results91)
def tfG22 := PLift.up (aI ty3 <| aI ty4 <| aI ty5 <| aI ty23 <| aI ty28 <| aI ty72 <| aI ty74 <| Tryz.results104)
def tfG23 := PLift.up (aI ty3 <| aI ty4 <| aI ty5 <| aI ty23 <| aI ty28 <| aI ty72 <| aI ty74 <| Tryz.results137)
def tfG24 := PLift.up (aI ty3 <| aI ty4 <| aI ty5 <| aI ty23 <| aI ty28 <| aI ty72 <| aI ty74 <| Tryz.results106)
/-- A function turns a frame of frames in own memory, or tells an error and leaves all. -/
def DoS (g : FuncId) (w : AV) (cap : List AV) (l : List Fr) (at_ : Nat) (E : Int) (V : Fr) : Prop := ∀ (H : Heap) (n : Nat) (S : Nat → Prop) (b : Nat) (m : List (AV × AV)), FrO H S b l m → (∀ id, S id → id < n) → (∀ id, n ≤ id → H id = none) →
  AC Tryz.prog g ([.ptr b (at_ * 6), w] ++ cap) H n (fun r H' _ => r = .ret (.int .i64 E) ∧ ((E ≠ 0 ∧ H' = H) ∨ (E = 0 ∧ ∃ m', FrO H' (fun x => S x ∨ x = n) b (l.set at_ V) m' ∧ ∀ id, id < n → ¬ S id → H' id = H id)))
theorem do134 (w : Int) {l : List Fr} {at_ : Nat} {u : Fr} (hu : l[at_]? = some u) : DoS 134 (.int .i64 w) [] l at_ (if u.dt = true then 0 else 2) { u with dt := false } := by
  intro H n S b m hF hSn htop
  obtain ⟨ab, hab⟩ : ∃ ab, m[at_]? = some ab := ⟨m[at_]'(by rw [hF.len]; exact (List.getElem?_eq_some_iff.1 hu).1), List.getElem?_eq_getElem _⟩
  have hlt := (List.getElem?_eq_some_iff.1 hu).1
  have eb := hF.2.1
  have hSb := hF.1
  have hbn := hSn b hSb
  have hfl := oFlat_len hF.len
  have hof : ∀ X : Heap, (∀ id, id ≠ b → id < n → X id = H id) → ∀ id, id < n → ¬ S id → X id = H id := fun X hX id hid hs => hX id (fun e => hs (e ▸ hSb)) hid
  have w5 : ((oRows l m).flatten.drop (at_ * 6 + 5))[0]? = some (.bool u.dt) := drop_head (oFlat_at hu hab (j := 5) (by decide))
  have b5 : (at_ * 6 + 5 + 1 ≤ (oRows l m).flatten.length) = True := by rw [hfl]; simp; omega
  refine ac_of_w Tryz.func134 (c := _) rfl (Nat.le_of_ble_eq_true rfl) ?_
  rw [show Tryz.f134.ntmps = 13 from rfl]
  simp only [List.cons_append, List.nil_append]
  cases hdt : u.dt with
  | false =>
    rw [hdt] at w5
    have tE := aI uU <| aI eb <| aI w5 <| aI b5 <| tfG20.down; repeat' first | (refine Red.h ?_) | ((with_reducible first | apply wz tkG2 | apply wr_z tkG2); exact zZ; decide) | ((with_reducible first | apply w_ift'); exact zV; exact zU) | ((with_reducible apply w_ret); (repeat refine Red.h ?_); (with_reducible first | apply donef_ret tkG2 | apply doneA_ret tkG2); exact zT; exact zD) | fail
    all_goals try clear tE
    exact ⟨rfl, .inl ⟨by decide, rfl⟩⟩
  | true =>
    rw [hdt] at w5
    have tE := aI uU <| aI eb <| aI w5 <| aI b5 <| tfG20.down; repeat' first | (refine Red.h ?_) | ((with_reducible first | apply wz tkG2 | apply wr_z tkG2); exact zZ; decide) | ((with_reducible first | apply w_store tkG2); exact zV; exact zV; exact zS) | ((with_reducible first | apply w_iff'); exact zV; exact zU) | ((with_reducible apply w_ret); (repeat refine Red.h ?_); (with_reducible first | apply donef_ret tkG2 | apply doneA_ret tkG2); exact zT; exact zD) | fail
    all_goals try clear tE
    refine ⟨rfl, .inr ⟨rfl, m.set at_ ab, ?_, hof _ (fun id hid _ => upd_ne _ _ hid)⟩⟩
    refine FrO.mono (S := S) (fun _ h => .inl h) ?_
    have h := fro_scalar (u' := { u with dt := false }) hF hu hab rfl rfl
    rw [← oFlat_wr (x := .bool false) hu hab (j := 5) (by decide) rfl] at h
    exact h
/-- Where bytes are put in a frame. -/
theorem fro_data {H : Heap} {S : Nat → Prop} {b n at_ : Nat} {l : List Fr} {m : List (AV × AV)} {u u' : Fr} {ab : AV × AV} {data : List UInt8} (hF : FrO H S b l m) (hbn : b < n) (htop : ∀ id, n ≤ id → H id = none) (hu : l[at_]? = some u) (hab : m[at_]? = some ab) (h1 : u'.d = data) (h2 : u'.pins = u.pins) :
    FrO (upd (clH H n 5 (byteRows data)) b (some (.cells (oRows (l.set at_ u') (m.set at_ (ownR n 1 (byteRows data), ab.2))).flatten 74))) (fun x => S x ∨ x = n) b (l.set at_ u') (m.set at_ (ownR n 1 (byteRows data), ab.2)) :=
  fro_new hF hbn htop (fun id hid => clH_old (by omega)) hu hab (.inl ⟨by rw [h1]; exact clH_own (fun _ => rfl) (byteRows_row _) (byteRows_flat _), rfl, h2⟩)
theorem do91 (c : Cf) (data : List UInt8) (hdl : data.length ≤ 1000000) {l : List Fr} {at_ : Nat} {u : Fr} (hu : l[at_]? = some u) : DoS 91 (.view (byteRows data)) [.vptr c.cells] l at_ (if u.k = 1 ∧ (data.length : Int) = c.z then 0 else 2) { u with k := 2, d := data } := by
  intro H n S b m hF hSn htop
  obtain ⟨ab, hab⟩ : ∃ ab, m[at_]? = some ab := ⟨m[at_]'(by rw [hF.len]; exact (List.getElem?_eq_some_iff.1 hu).1), List.getElem?_eq_getElem _⟩
  have hlt := (List.getElem?_eq_some_iff.1 hu).1
  have eb := hF.2.1
  have hSb := hF.1
  have hbn := hSn b hSb
  have hfl := oFlat_len hF.len
  have hof : ∀ X : Heap, (∀ id, id ≠ b → id < n → X id = H id) → ∀ id, id < n → ¬ S id → X id = H id := fun X hX id hid hs => hX id (fun e => hs (e ▸ hSb)) hid
  have w0 : ((oRows l m).flatten.drop (at_ * 6))[0]? = some (.int .u8 u.k) := drop_head (oFlat_at hu hab (j := 0) (by decide))
  have b0 : (at_ * 6 + 1 ≤ (oRows l m).flatten.length) = True := by rw [hfl]; simp; omega
  have w2 : ((oRows l m).flatten.drop (at_ * 6 + 2))[0]? = some (ab.1) := drop_head (oFlat_at hu hab (j := 2) (by decide))
  have b2 : (at_ * 6 + 2 + 1 ≤ (oRows l m).flatten.length) = True := by rw [hfl]; simp; omega
  have hcb := @clH_b
  have qb : (b == n) = false := by rw [beq_eq_false_iff_ne]; omega
  refine ac_of_w Tryz.func91 (c := _) rfl (Nat.le_of_ble_eq_true rfl) ?_
  rw [show Tryz.f91.ntmps = 26 from rfl]
  simp only [List.cons_append, List.nil_append]
  by_cases hk : u.k = 1
  · have k1 : (u.k != 1) = false := by simp [hk]
    by_cases hz : (data.length : Int) = c.z
    · have z1 : ((data.length : Int) != c.z) = false := by simp [hz]
      rw [if_pos ⟨hk, hz⟩]
      have tE := aI uU <| aI eb <| aI w0 <| aI b0 <| aI w2 <| aI b2 <| aI hcb <| aI qb <| aI k1 <| aI z1 <| aI Cf.cells.eq_1 <| aI byteRows_len <| aI Nat.add_zero <| aI set_len <| tfG21.down; repeat' first | (refine Red.h ?_) | ((with_reducible first | apply wz tkG2 | apply wr_z tkG2); exact zZ; decide) | ((with_reducible first | apply wzg tkG2 | apply wr_zg tkG2); exact zU; exact zL; exact zU; exact zZ; decide) | ((with_reducible first | apply w_store tkG2); exact zV; exact zV; exact zS) | ((with_reducible first | apply w_store tkG2); exact zV; exact zV; (focus ((with_reducible apply hv1); exact zC1; exact zC2; exact zT; exact zU; exact zH; exact zTd; exact zU))) | ((with_reducible first | apply wacall'); exact zV; exact zVs; exact zAs; (focus (first | exact ⟨_, Tryz.func42, rfl, rfl⟩)); (focus (with_unfolding_all first | exact ac42 data hdl _ _)); decide) | ((with_reducible first | apply w_iff'); exact zV; exact zU) | ((with_reducible apply w_ret); (repeat refine Red.h ?_); (with_reducible first | apply donef_ret tkG2 | apply doneA_ret tkG2); exact zT; exact zD) | fail
      all_goals try clear tE
      refine ⟨rfl, .inr ⟨rfl, m.set at_ (ownR n 1 (byteRows data), ab.2), ?_, ?_⟩⟩
      · have h := fro_data (u' := { u with k := 2, d := data }) hF hbn htop hu hab rfl rfl
        have e1 := oFlat_wr (x := .int .u8 2) (u' := { u with k := 2 }) (ab' := ab) hu hab (j := 0) (by decide) rfl
        have e2 := oFlat_wr (x := ownR n 1 (byteRows data)) (u' := { u with k := 2, d := data }) (ab' := (ownR n 1 (byteRows data), ab.2)) (set_at (y := { u with k := 2 }) hu) (set_at (y := ab) hab) (j := 2) (by decide) rfl
        rw [← e1, List.set_set, List.set_set] at e2
        rw [← e2] at h
        simp only [upd_upd]
        exact h
      · refine hof _ (fun id hid hidn => ?_)
        rw [upd_ne _ _ hid]
        repeat rw [upd_ne _ _ hid]
        exact clH_old (by omega)
    · have z1 : ((data.length : Int) != c.z) = true := by simp [hz]
      rw [if_neg (fun h => hz h.2)]
      have tE := aI uU <| aI eb <| aI w0 <| aI b0 <| aI w2 <| aI b2 <| aI hcb <| aI qb <| aI k1 <| aI z1 <| aI Cf.cells.eq_1 <| aI byteRows_len <| aI Nat.add_zero <| tfG21.down; repeat' first | (refine Red.h ?_) | ((with_reducible first | apply wz tkG2 | apply wr_z tkG2); exact zZ; decide) | ((with_reducible first | apply wzg tkG2 | apply wr_zg tkG2); exact zU; exact zL; exact zU; exact zZ; decide) | ((with_reducible first | apply w_ift'); exact zV; exact zU) | ((with_reducible apply w_ret); (repeat refine Red.h ?_); (with_reducible first | apply donef_ret tkG2 | apply doneA_ret tkG2); exact zT; exact zD) | fail
      all_goals try clear tE
      exact ⟨rfl, .inl ⟨by decide, rfl⟩⟩
  · have k1 : (u.k != 1) = true := by simp [hk]
    rw [if_neg (fun h => hk h.1)]
    have tE := aI uU <| aI eb <| aI w0 <| aI b0 <| aI w2 <| aI b2 <| aI hcb <| aI qb <| aI k1 <| aI Cf.cells.eq_1 <| aI byteRows_len <| aI Nat.add_zero <| tfG21.down; repeat' first | (refine Red.h ?_) | ((with_reducible first | apply wz tkG2 | apply wr_z tkG2); exact zZ; decide) | ((with_reducible first | apply wskip' | apply wr_skip); exact zU; exact zL; exact zU; decide) | ((with_reducible first | apply w_ift'); exact zV; exact zU) | ((with_reducible apply w_ret); (repeat refine Red.h ?_); (with_reducible first | apply donef_ret tkG2 | apply doneA_ret tkG2); exact zT; exact zD) | fail
    all_goals try clear tE
    exact ⟨rfl, .inl ⟨by decide, rfl⟩⟩
theorem do104 (c : Cf) (data : List UInt8) (hdl : data.length ≤ 1000000) {l : List Fr} {at_ : Nat} {u : Fr} (hu : l[at_]? = some u) : DoS 104 (.view (byteRows data)) [.vptr c.cells] l at_ (if u.k = 2 ∧ (data.length : Int) = c.z then 0 else 2) { u with d := data, rf := true, dt := true } := by
  intro H n S b m hF hSn htop
  obtain ⟨ab, hab⟩ : ∃ ab, m[at_]? = some ab := ⟨m[at_]'(by rw [hF.len]; exact (List.getElem?_eq_some_iff.1 hu).1), List.getElem?_eq_getElem _⟩
  have hlt := (List.getElem?_eq_some_iff.1 hu).1
  have eb := hF.2.1
  have hSb := hF.1
  have hbn := hSn b hSb
  have hfl := oFlat_len hF.len
  have hof : ∀ X : Heap, (∀ id, id ≠ b → id < n → X id = H id) → ∀ id, id < n → ¬ S id → X id = H id := fun X hX id hid hs => hX id (fun e => hs (e ▸ hSb)) hid
  have w0 : ((oRows l m).flatten.drop (at_ * 6))[0]? = some (.int .u8 u.k) := drop_head (oFlat_at hu hab (j := 0) (by decide))
  have b0 : (at_ * 6 + 1 ≤ (oRows l m).flatten.length) = True := by rw [hfl]; simp; omega
  have w2 : ((oRows l m).flatten.drop (at_ * 6 + 2))[0]? = some (ab.1) := drop_head (oFlat_at hu hab (j := 2) (by decide))
  have b2 : (at_ * 6 + 2 + 1 ≤ (oRows l m).flatten.length) = True := by rw [hfl]; simp; omega
  have w4 : ((oRows l m).flatten.drop (at_ * 6 + 4))[0]? = some (.bool u.rf) := drop_head (oFlat_at hu hab (j := 4) (by decide))
  have b4 : (at_ * 6 + 4 + 1 ≤ (oRows l m).flatten.length) = True := by rw [hfl]; simp; omega
  have w5 : ((oRows l m).flatten.drop (at_ * 6 + 5))[0]? = some (.bool u.dt) := drop_head (oFlat_at hu hab (j := 5) (by decide))
  have b5 : (at_ * 6 + 5 + 1 ≤ (oRows l m).flatten.length) = True := by rw [hfl]; simp; omega
  have hcb := @clH_b
  have qb : (b == n) = false := by rw [beq_eq_false_iff_ne]; omega
  refine ac_of_w Tryz.func104 (c := _) rfl (Nat.le_of_ble_eq_true rfl) ?_
  rw [show Tryz.f104.ntmps = 29 from rfl]
  simp only [List.cons_append, List.nil_append]
  by_cases hk : u.k = 2
  · have k1 : (u.k != 2) = false := by simp [hk]
    by_cases hz : (data.length : Int) = c.z
    · have z1 : ((data.length : Int) != c.z) = false := by simp [hz]
      rw [if_pos ⟨hk, hz⟩]
      have tE := aI uU <| aI eb <| aI w0 <| aI b0 <| aI w2 <| aI b2 <| aI w4 <| aI b4 <| aI w5 <| aI b5 <| aI hcb <| aI qb <| aI k1 <| aI z1 <| aI Cf.cells.eq_1 <| aI byteRows_len <| aI Nat.add_zero <| aI set_len <| tfG22.down; repeat' first | (refine Red.h ?_) | ((with_reducible first | apply wz tkG2 | apply wr_z tkG2); exact zZ; decide) | ((with_reducible first | apply wzg tkG2 | apply wr_zg tkG2); exact zU; exact zL; exact zU; exact zZ; decide) | ((with_reducible first | apply w_store tkG2); exact zV; exact zV; exact zS) | ((with_reducible first | apply w_store tkG2); exact zV; exact zV; (focus ((with_reducible apply hv1); exact zC1; exact zC2; exact zT; exact zU; exact zH; exact zTd; exact zU))) | ((with_reducible first | apply wacall'); exact zV; exact zVs; exact zAs; (focus (first | exact ⟨_, Tryz.func42, rfl, rfl⟩)); (focus (with_unfolding_all first | exact ac42 data hdl _ _)); decide) | ((with_reducible first | apply w_iff'); exact zV; exact zU) | ((with_reducible apply w_ret); (repeat refine Red.h ?_); (with_reducible first | apply donef_ret tkG2 | apply doneA_ret tkG2); exact zT; exact zD) | fail
      all_goals try clear tE
      refine ⟨rfl, .inr ⟨rfl, m.set at_ (ownR n 1 (byteRows data), ab.2), ?_, ?_⟩⟩
      · have h := fro_data (u' := { u with d := data, rf := true, dt := true }) hF hbn htop hu hab rfl rfl
        have e1 := oFlat_wr (x := ownR n 1 (byteRows data)) (u' := { u with d := data }) (ab' := (ownR n 1 (byteRows data), ab.2)) hu hab (j := 2) (by decide) rfl
        have e2 := oFlat_wr (x := .bool true) (u' := { u with d := data, dt := true }) (ab' := (ownR n 1 (byteRows data), ab.2)) (set_at (y := { u with d := data }) hu) (set_at (y := (ownR n 1 (byteRows data), ab.2)) hab) (j := 5) (by decide) rfl
        have e3 := oFlat_wr (x := .bool true) (u' := { u with d := data, rf := true, dt := true }) (ab' := (ownR n 1 (byteRows data), ab.2)) (set_at (y := { u with d := data, dt := true }) hu) (set_at (y := (ownR n 1 (byteRows data), ab.2)) hab) (j := 4) (by decide) rfl
        rw [← e1, List.set_set, List.set_set] at e2
        rw [← e2, List.set_set, List.set_set] at e3
        rw [← e3] at h
        exact h
      · refine hof _ (fun id hid hidn => ?_)
        rw [upd_ne _ _ hid]
        repeat rw [upd_ne _ _ hid]
        exact clH_old (by omega)
    · have z1 : ((data.length : Int) != c.z) = true := by simp [hz]
      rw [if_neg (fun h => hz h.2)]
      have tE := aI uU <| aI eb <| aI w0 <| aI b0 <| aI w2 <| aI b2 <| aI w4 <| aI b4 <| aI w5 <| aI b5 <| aI hcb <| aI qb <| aI k1 <| aI z1 <| aI Cf.cells.eq_1 <| aI byteRows_len <| aI Nat.add_zero <| tfG22.down; repeat' first | (refine Red.h ?_) | ((with_reducible first | apply wz tkG2 | apply wr_z tkG2); exact zZ; decide) | ((with_reducible first | apply wzg tkG2 | apply wr_zg tkG2); exact zU; exact zL; exact zU; exact zZ; decide) | ((with_reducible first | apply w_ift'); exact zV; exact zU) | ((with_reducible apply w_ret); (repeat refine Red.h ?_); (with_reducible first | apply donef_ret tkG2 | apply doneA_ret tkG2); exact zT; exact zD) | fail
      all_goals try clear tE
      exact ⟨rfl, .inl ⟨by decide, rfl⟩⟩
  · have k1 : (u.k != 2) = true := by simp [hk]
    rw [if_neg (fun h => hk h.1)]
    have tE := aI uU <| aI eb <| aI w0 <| aI b0 <| aI w2 <| aI b2 <| aI w4 <| aI b4 <| aI w5 <| aI b5 <| aI hcb <| aI qb <| aI k1 <| aI Cf.cells.eq_1 <| aI byteRows_len <| aI Nat.add_zero <| tfG22.down; repeat' first | (refine Red.h ?_) | ((with_reducible first | apply wz tkG2 | apply wr_z tkG2); exact zZ; decide) | ((with_reducible first | apply wskip' | apply wr_skip); exact zU; exact zL; exact zU; decide) | ((with_reducible first | apply w_ift'); exact zV; exact zU) | ((with_reducible apply w_ret); (repeat refine Red.h ?_); (with_reducible first | apply donef_ret tkG2 | apply doneA_ret tkG2); exact zT; exact zD) | fail
    all_goals try clear tE
    exact ⟨rfl, .inl ⟨by decide, rfl⟩⟩
/-- A client's pins. -/
def pinN (u : Fr) (cl : Int) : Int := u.pins.getD cl.toNat 0
def pinE (c : Cf) (u : Fr) (cl : Int) : Int := if cl < 0 ∨ cl ≥ c.cl ∨ u.k = 0 then 2 else if pinN u cl = 8 then 260 else 0
def pinV (u : Fr) (cl : Int) : Fr := { u with pins := u.pins.set cl.toNat (pinN u cl + 1), rf := true }
theorem upd_self {α : Type} {f : Nat → α} {i : Nat} {x : α} (h : f i = x) : upd f i x = f := by
  funext j
  by_cases e : j = i
  · subst e; rw [upd_same, h]
  · rw [upd_ne _ _ e]
theorem do137 (c : Cf) (cl : Int) {l : List Fr} {at_ : Nat} {u : Fr} (hu : l[at_]? = some u) (hpl : (u.pins.length : Int) = c.cl) (hpw : wildP u = false) (hpx : u.pins.length ≤ 1000000) : DoS 137 (.int .i64 cl) [.vptr c.cells] l at_ (pinE c u cl) (pinV u cl) := by
  intro H n S b m hF hSn htop
  obtain ⟨ab, hab⟩ : ∃ ab, m[at_]? = some ab := ⟨m[at_]'(by rw [hF.len]; exact (List.getElem?_eq_some_iff.1 hu).1), List.getElem?_eq_getElem _⟩
  have hlt := (List.getElem?_eq_some_iff.1 hu).1
  have eb := hF.2.1
  have hSb := hF.1
  have hbn := hSn b hSb
  have hfl := oFlat_len hF.len
  have hof : ∀ X : Heap, (∀ id, id ≠ b → id < n → X id = H id) → ∀ id, id < n → ¬ S id → X id = H id := fun X hX id hid hs => hX id (fun e => hs (e ▸ hSb)) hid
  have w0 : ((oRows l m).flatten.drop (at_ * 6))[0]? = some (.int .u8 u.k) := drop_head (oFlat_at hu hab (j := 0) (by decide))
  have b0 : (at_ * 6 + 1 ≤ (oRows l m).flatten.length) = True := by rw [hfl]; simp; omega
  have w3 : ((oRows l m).flatten.drop (at_ * 6 + 3))[0]? = some (ab.2) := drop_head (oFlat_at hu hab (j := 3) (by decide))
  have b3 : (at_ * 6 + 3 + 1 ≤ (oRows l m).flatten.length) = True := by rw [hfl]; simp; omega
  have w4 : ((oRows l m).flatten.drop (at_ * 6 + 4))[0]? = some (.bool u.rf) := drop_head (oFlat_at hu hab (j := 4) (by decide))
  have b4 : (at_ * 6 + 4 + 1 ≤ (oRows l m).flatten.length) = True := by rw [hfl]; simp; omega
  refine ac_of_w Tryz.func137 (c := _) rfl (Nat.le_of_ble_eq_true rfl) ?_
  rw [show Tryz.f137.ntmps = 43 from rfl]
  simp only [List.cons_append, List.nil_append]
  by_cases c0 : cl < 0
  · have c0' : (cl < 0) = True := eq_true c0
    rw [show pinE c u cl = 2 from if_pos (.inl c0)]
    have tE := aI uU <| aI eb <| aI w0 <| aI b0 <| aI w3 <| aI b3 <| aI w4 <| aI b4 <| aI c0' <| aI Cf.cells.eq_1 <| aI Nat.add_zero <| tfG23.down; repeat' first | (refine Red.h ?_) | ((with_reducible first | apply wz tkG2 | apply wr_z tkG2); exact zZ; decide) | ((with_reducible first | apply wskip' | apply wr_skip); exact zU; exact zL; exact zU; decide) | ((with_reducible first | apply w_ift'); exact zV; exact zU) | ((with_reducible apply w_ret); (repeat refine Red.h ?_); (with_reducible first | apply donef_ret tkG2 | apply doneA_ret tkG2); exact zT; exact zD) | fail
    all_goals try clear tE
    exact ⟨rfl, .inl ⟨by decide, rfl⟩⟩
  · have c0' : (cl < 0) = False := eq_false c0
    by_cases c1 : cl ≥ c.cl
    · have c1' : (cl ≥ c.cl) = True := eq_true c1
      rw [show pinE c u cl = 2 from if_pos (.inr (.inl c1))]
      have tE := aI uU <| aI eb <| aI w0 <| aI b0 <| aI w3 <| aI b3 <| aI w4 <| aI b4 <| aI c0' <| aI c1' <| aI Cf.cells.eq_1 <| aI Nat.add_zero <| tfG23.down; repeat' first | (refine Red.h ?_) | ((with_reducible first | apply wz tkG2 | apply wr_z tkG2); exact zZ; decide) | ((with_reducible first | apply wzg tkG2 | apply wr_zg tkG2); exact zU; exact zL; exact zU; exact zZ; decide) | ((with_reducible first | apply wskip' | apply wr_skip); exact zU; exact zL; exact zU; decide) | ((with_reducible first | apply w_ift'); exact zV; exact zU) | ((with_reducible apply w_ret); (repeat refine Red.h ?_); (with_reducible first | apply donef_ret tkG2 | apply doneA_ret tkG2); exact zT; exact zD) | fail
      all_goals try clear tE
      exact ⟨rfl, .inl ⟨by decide, rfl⟩⟩
    · have c1' : (cl ≥ c.cl) = False := eq_false c1
      by_cases c2 : u.k = 0
      · have c2' : (u.k == 0) = true := by simpa using c2
        rw [show pinE c u cl = 2 from if_pos (.inr (.inr c2))]
        have tE := aI uU <| aI eb <| aI w0 <| aI b0 <| aI w3 <| aI b3 <| aI w4 <| aI b4 <| aI c0' <| aI c1' <| aI c2' <| aI Cf.cells.eq_1 <| aI Nat.add_zero <| tfG23.down; repeat' first | (refine Red.h ?_) | ((with_reducible first | apply wz tkG2 | apply wr_z tkG2); exact zZ; decide) | ((with_reducible first | apply wzg tkG2 | apply wr_zg tkG2); exact zU; exact zL; exact zU; exact zZ; decide) | ((with_reducible first | apply w_ift'); exact zV; exact zU) | ((with_reducible apply w_ret); (repeat refine Red.h ?_); (with_reducible first | apply donef_ret tkG2 | apply doneA_ret tkG2); exact zT; exact zD) | fail
        all_goals try clear tE
        exact ⟨rfl, .inl ⟨by decide, rfl⟩⟩
      · have c2' : (u.k == 0) = false := by simpa using c2
        obtain ⟨k, rfl⟩ : ∃ k : Nat, cl = k := ⟨cl.toNat, by omega⟩
        have hk : k < u.pins.length := by omega
        obtain ⟨_, g, hg⟩ := hF.2.2
        obtain ⟨id, off, cap, cs, e, hx, ⟨⟨hid1, hid2⟩, hgid⟩, hH, hcs, hat⟩ := ints_own (by omega) (hg at_ u ab hu hab).2
        have hpk : u.pins[k]? = some u.pins[k] := List.getElem?_eq_getElem hk
        have hN : pinN u (k : Int) = u.pins[k] := by simp [pinN, hpk]
        generalize u.pins[k] = p at hpk hN
        have hpb : 0 ≤ p ∧ p ≤ 8 := by
          have := (List.any_eq_false.1 hpw) p (List.mem_of_getElem? hpk)
          simp at this; omega
        have hidn : id < n := by
          rcases Nat.lt_or_ge id n with h | h
          · exact h
          · rw [htop id h] at hH; cases hH
        rw [hx] at w3
        have wp : (cs.drop (off + k))[0]? = some (.int .i64 p) := drop_head (hat k p hpk)
        have bp : (off + k + 1 ≤ cs.length) = True := by simp; omega
        have k0 : (0 ≤ (k : Int)) = True := by simp
        have k1 : ((k : Int) < (u.pins.length : Int)) = True := by simp; omega
        have hw : IntKind.i64.wrap (p + 1) = p + 1 := wrap64 (by omega) (by omega)
        have qb : (b == id) = false := by rw [beq_eq_false_iff_ne]; omega
        have hE : pinE c u (k : Int) = if p = 8 then 260 else 0 := by rw [pinE, if_neg (by omega), hN]
        rw [hE]
        by_cases h8 : p = 8
        · have h8' : (p == 8) = true := by simpa using h8
          rw [if_pos h8]
          have tE := aI uU <| aI eb <| aI w0 <| aI b0 <| aI w3 <| aI b3 <| aI w4 <| aI b4 <| aI c0' <| aI c1' <| aI c2' <| aI hH <| aI wp <| aI bp <| aI k0 <| aI k1 <| aI h8' <| aI Cf.cells.eq_1 <| aI Nat.add_zero <| aI Nat.mul_one <| tfG23.down; repeat' first | (refine Red.h ?_) | ((with_reducible first | apply wz tkG2 | apply wr_z tkG2); exact zZ; decide) | ((with_reducible first | apply wzg tkG2 | apply wr_zg tkG2); exact zU; exact zL; exact zU; exact zZ; decide) | ((with_reducible first | apply w_ift'); exact zV; exact zU) | ((with_reducible first | apply w_iff'); exact zV; exact zU) | ((with_reducible apply w_ret); (repeat refine Red.h ?_); (with_reducible first | apply donef_ret tkG2 | apply doneA_ret tkG2); exact zT; exact zD) | fail
          all_goals try clear tE
          exact ⟨rfl, .inl ⟨by decide, rfl⟩⟩
        · have h8' : (p == 8) = false := by simpa using h8
          rw [if_neg h8]
          have tE := aI uU <| aI eb <| aI w0 <| aI b0 <| aI w3 <| aI b3 <| aI w4 <| aI b4 <| aI c0' <| aI c1' <| aI c2' <| aI hH <| aI wp <| aI bp <| aI k0 <| aI k1 <| aI h8' <| aI hw <| aI qb <| aI Cf.cells.eq_1 <| aI Nat.add_zero <| aI Nat.mul_one <| tfG23.down; repeat' first | (refine Red.h ?_) | ((with_reducible first | apply wz tkG2 | apply wr_z tkG2); exact zZ; decide) | ((with_reducible first | apply wzg tkG2 | apply wr_zg tkG2); exact zU; exact zL; exact zU; exact zZ; decide) | ((with_reducible first | apply w_store tkG2); exact zV; exact zV; exact zS) | ((with_reducible first | apply w_iff'); exact zV; exact zU) | ((with_reducible apply w_ret); (repeat refine Red.h ?_); (with_reducible first | apply donef_ret tkG2 | apply doneA_ret tkG2); exact zT; exact zD) | fail
          all_goals try clear tE
          refine ⟨rfl, .inr ⟨rfl, m.set at_ ab, ?_, fun x hx hsx => ?_⟩⟩
          · refine FrO.mono (S := S) (fun _ h => .inl h) ?_
            have h := fro_pins (u' := pinV u (k : Int)) (v := p + 1) hF hu hab hk hx hH hcs hat ⟨g, hgid, hg⟩ ⟨hid1, hid2⟩ rfl (by simp only [pinV, hN]; rfl)
            rw [← oFlat_wr (x := .bool true) hu hab (j := 4) (by decide) rfl] at h
            exact h
          · show upd (upd H id _) b _ x = _
            rw [upd_ne _ _ (fun e => hsx (by rw [e]; exact hSb)), upd_ne _ _ (fun e => hsx (by rw [e]; exact hid1))]
def unpinE (c : Cf) (u : Fr) (cl : Int) : Int := if cl < 0 ∨ cl ≥ c.cl then 2 else if u.k ≠ 2 ∨ pinN u cl = 0 then 260 else 0
def unpinV (u : Fr) (cl : Int) : Fr := { u with pins := u.pins.set cl.toNat (pinN u cl - 1) }
theorem do106 (c : Cf) (cl : Int) {l : List Fr} {at_ : Nat} {u : Fr} (hu : l[at_]? = some u) (hpl : (u.pins.length : Int) = c.cl) (hpw : wildP u = false) (hpx : u.pins.length ≤ 1000000) : DoS 106 (.int .i64 cl) [.vptr c.cells] l at_ (unpinE c u cl) (unpinV u cl) := by
  intro H n S b m hF hSn htop
  obtain ⟨ab, hab⟩ : ∃ ab, m[at_]? = some ab := ⟨m[at_]'(by rw [hF.len]; exact (List.getElem?_eq_some_iff.1 hu).1), List.getElem?_eq_getElem _⟩
  have hlt := (List.getElem?_eq_some_iff.1 hu).1
  have eb := hF.2.1
  have hSb := hF.1
  have hbn := hSn b hSb
  have hfl := oFlat_len hF.len
  have hof : ∀ X : Heap, (∀ id, id ≠ b → id < n → X id = H id) → ∀ id, id < n → ¬ S id → X id = H id := fun X hX id hid hs => hX id (fun e => hs (e ▸ hSb)) hid
  have w0 : ((oRows l m).flatten.drop (at_ * 6))[0]? = some (.int .u8 u.k) := drop_head (oFlat_at hu hab (j := 0) (by decide))
  have b0 : (at_ * 6 + 1 ≤ (oRows l m).flatten.length) = True := by rw [hfl]; simp; omega
  have w3 : ((oRows l m).flatten.drop (at_ * 6 + 3))[0]? = some (ab.2) := drop_head (oFlat_at hu hab (j := 3) (by decide))
  have b3 : (at_ * 6 + 3 + 1 ≤ (oRows l m).flatten.length) = True := by rw [hfl]; simp; omega
  refine ac_of_w Tryz.func106 (c := _) rfl (Nat.le_of_ble_eq_true rfl) ?_
  rw [show Tryz.f106.ntmps = 40 from rfl]
  simp only [List.cons_append, List.nil_append]
  by_cases c0 : cl < 0
  · have c0' : (cl < 0) = True := eq_true c0
    rw [show unpinE c u cl = 2 from if_pos (.inl c0)]
    have tE := aI uU <| aI eb <| aI w0 <| aI b0 <| aI w3 <| aI b3 <| aI c0' <| aI Cf.cells.eq_1 <| aI Nat.add_zero <| tfG24.down; repeat' first | (refine Red.h ?_) | ((with_reducible first | apply wz tkG2 | apply wr_z tkG2); exact zZ; decide) | ((with_reducible first | apply wskip' | apply wr_skip); exact zU; exact zL; exact zU; decide) | ((with_reducible first | apply w_ift'); exact zV; exact zU) | ((with_reducible apply w_ret); (repeat refine Red.h ?_); (with_reducible first | apply donef_ret tkG2 | apply doneA_ret tkG2); exact zT; exact zD) | fail
    all_goals try clear tE
    exact ⟨rfl, .inl ⟨by decide, rfl⟩⟩
  · have c0' : (cl < 0) = False := eq_false c0
    by_cases c1 : cl ≥ c.cl
    · have c1' : (cl ≥ c.cl) = True := eq_true c1
      rw [show unpinE c u cl = 2 from if_pos (.inr c1)]
      have tE := aI uU <| aI eb <| aI w0 <| aI b0 <| aI w3 <| aI b3 <| aI c0' <| aI c1' <| aI Cf.cells.eq_1 <| aI Nat.add_zero <| tfG24.down; repeat' first | (refine Red.h ?_) | ((with_reducible first | apply wz tkG2 | apply wr_z tkG2); exact zZ; decide) | ((with_reducible first | apply wzg tkG2 | apply wr_zg tkG2); exact zU; exact zL; exact zU; exact zZ; decide) | ((with_reducible first | apply w_ift'); exact zV; exact zU) | ((with_reducible apply w_ret); (repeat refine Red.h ?_); (with_reducible first | apply donef_ret tkG2 | apply doneA_ret tkG2); exact zT; exact zD) | fail
      all_goals try clear tE
      exact ⟨rfl, .inl ⟨by decide, rfl⟩⟩
    · have c1' : (cl ≥ c.cl) = False := eq_false c1
      have hEE : unpinE c u cl = if u.k ≠ 2 ∨ pinN u cl = 0 then 260 else 0 := by rw [unpinE, if_neg (by omega)]
      by_cases c2 : u.k = 2
      · have c2' : (u.k != 2) = false := by simp [c2]
        obtain ⟨k, rfl⟩ : ∃ k : Nat, cl = k := ⟨cl.toNat, by omega⟩
        have hk : k < u.pins.length := by omega
        obtain ⟨_, g, hg⟩ := hF.2.2
        obtain ⟨id, off, cap, cs, e, hx, ⟨⟨hid1, hid2⟩, hgid⟩, hH, hcs, hat⟩ := ints_own (by omega) (hg at_ u ab hu hab).2
        have hpk : u.pins[k]? = some u.pins[k] := List.getElem?_eq_getElem hk
        have hN : pinN u (k : Int) = u.pins[k] := by simp [pinN, hpk]
        generalize u.pins[k] = p at hpk hN
        have hpb : 0 ≤ p ∧ p ≤ 8 := by
          have := (List.any_eq_false.1 hpw) p (List.mem_of_getElem? hpk)
          simp at this; omega
        have hidn : id < n := by
          rcases Nat.lt_or_ge id n with h | h
          · exact h
          · rw [htop id h] at hH; cases hH
        rw [hx] at w3
        have wp : (cs.drop (off + k))[0]? = some (.int .i64 p) := drop_head (hat k p hpk)
        have bp : (off + k + 1 ≤ cs.length) = True := by simp; omega
        have k0 : (0 ≤ (k : Int)) = True := by simp
        have k1 : ((k : Int) < (u.pins.length : Int)) = True := by simp; omega
        have hw : IntKind.i64.wrap (p - 1) = p - 1 := wrap64 (by omega) (by omega)
        have qb : (b == id) = false := by rw [beq_eq_false_iff_ne]; omega
        rw [hEE, hN]
        by_cases h8 : p = 0
        · have h8' : (p == 0) = true := by simpa using h8
          rw [if_pos (.inr h8)]
          have tE := aI uU <| aI eb <| aI w0 <| aI b0 <| aI w3 <| aI b3 <| aI c0' <| aI c1' <| aI c2' <| aI hH <| aI wp <| aI bp <| aI k0 <| aI k1 <| aI h8' <| aI Cf.cells.eq_1 <| aI Nat.add_zero <| aI Nat.mul_one <| tfG24.down; repeat' first | (refine Red.h ?_) | ((with_reducible first | apply wz tkG2 | apply wr_z tkG2); exact zZ; decide) | ((with_reducible first | apply wzg tkG2 | apply wr_zg tkG2); exact zU; exact zL; exact zU; exact zZ; decide) | ((with_reducible first | apply w_ift'); exact zV; exact zU) | ((with_reducible first | apply w_iff'); exact zV; exact zU) | ((with_reducible apply w_ret); (repeat refine Red.h ?_); (with_reducible first | apply donef_ret tkG2 | apply doneA_ret tkG2); exact zT; exact zD) | fail
          all_goals try clear tE
          exact ⟨rfl, .inl ⟨by decide, rfl⟩⟩
        · have h8' : (p == 0) = false := by simpa using h8
          rw [if_neg (by intro h; rcases h with h | h; exact h c2; exact h8 h)]
          have tE := aI uU <| aI eb <| aI w0 <| aI b0 <| aI w3 <| aI b3 <| aI c0' <| aI c1' <| aI c2' <| aI hH <| aI wp <| aI bp <| aI k0 <| aI k1 <| aI h8' <| aI hw <| aI qb <| aI Cf.cells.eq_1 <| aI Nat.add_zero <| aI Nat.mul_one <| tfG24.down; repeat' first | (refine Red.h ?_) | ((with_reducible first | apply wz tkG2 | apply wr_z tkG2); exact zZ; decide) | ((with_reducible first | apply wzg tkG2 | apply wr_zg tkG2); exact zU; exact zL; exact zU; exact zZ; decide) | ((with_reducible first | apply w_store tkG2); exact zV; exact zV; exact zS) | ((with_reducible first | apply w_iff'); exact zV; exact zU) | ((with_reducible apply w_ret); (repeat refine Red.h ?_); (with_reducible first | apply donef_ret tkG2 | apply doneA_ret tkG2); exact zT; exact zD) | fail
          all_goals try clear tE
          refine ⟨rfl, .inr ⟨rfl, m.set at_ ab, ?_, fun x hx hsx => ?_⟩⟩
          · refine FrO.mono (S := S) (fun _ h => .inl h) ?_
            have h := fro_pins (u' := unpinV u (k : Int)) (v := p - 1) hF hu hab hk hx hH hcs hat ⟨g, hgid, hg⟩ ⟨hid1, hid2⟩ rfl (by simp only [unpinV, hN]; rfl)
            have he : (oRows (l.set at_ (unpinV u (k : Int))) (m.set at_ ab)).flatten = (oRows l m).flatten := by
              rw [← oRows_set2 (unpinV u (k : Int)) ab hu hab, show oRow (unpinV u (k : Int)) ab = oRow u ab from rfl, set_id (oRows_at hu hab)]
            rw [he, upd_self (by rw [upd_ne _ _ (by omega)]; exact eb)] at h
            exact h
          · show upd H id _ x = _
            rw [upd_ne _ _ (fun e => hsx (by rw [e]; exact hid1))]
      · have c2' : (u.k != 2) = true := by simp [c2]
        rw [hEE, if_pos (.inl c2)]
        have tE := aI uU <| aI eb <| aI w0 <| aI b0 <| aI w3 <| aI b3 <| aI c0' <| aI c1' <| aI c2' <| aI Cf.cells.eq_1 <| aI Nat.add_zero <| tfG24.down; repeat' first | (refine Red.h ?_) | ((with_reducible first | apply wz tkG2 | apply wr_z tkG2); exact zZ; decide) | ((with_reducible first | apply wzg tkG2 | apply wr_zg tkG2); exact zU; exact zL; exact zU; exact zZ; decide) | ((with_reducible first | apply wskip' | apply wr_skip); exact zU; exact zL; exact zU; decide) | ((with_reducible first | apply w_ift'); exact zV; exact zU) | ((with_reducible first | apply w_iff'); exact zV; exact zU) | ((with_reducible apply w_ret); (repeat refine Red.h ?_); (with_reducible first | apply donef_ret tkG2 | apply doneA_ret tkG2); exact zT; exact zD) | fail
        all_goals try clear tE
        exact ⟨rfl, .inl ⟨by decide, rfl⟩⟩
end Go.Proofs.YtlmighkbeacjnaaGreatDoor


open Go Go.Lg
set_option linter.unusedSimpArgs false
set_option linter.unusedVariables false
set_option maxHeartbeats 4000000
set_option maxRecDepth 20000
namespace Go.Proofs.YtlmighkbeacjnaaGreatDoor
theorem tkG3 : TOK Tryz.prog (tyOf Tryz.prog) := tok Tryz.prog
def tfG30 := PLift.up (aI ty3 <| aI ty4 <| aI ty5 <| aI ty23 <| aI ty24 <| aI ty26 <| aI ty28 <| aI ty34 <| aI ty72 <| aI ty74 <| Tryz.results105)
def tfG31 := PLift.up (aI ty3 <| aI ty4 <| aI ty5 <| aI ty23 <| aI ty24 <| aI ty26 <| aI ty28 <| aI ty34 <| aI ty72 <| aI ty74 <| Tryz.results90)
/-- What turning the frame at a place tells: an error, and frames. -/
def turnE (c : Cf) (f : Fs) (at_ : Int) (E : Fr → Int) : Int := if okF c f = true then (if at_ < 0 ∨ at_ ≥ f.l.length then 2 else match f.l[at_.toNat]? with
  | some u => E u
  | none => 2) else 8
def turnF (c : Cf) (f : Fs) (at_ : Int) (E : Fr → Int) (V : Fr → Fr) : Fs := if turnE c f at_ E = 0 then (match f.l[at_.toNat]? with
  | some u => ⟨f.l.set at_.toNat (V u), f.h⟩
  | none => ⟨[], 0⟩) else ⟨[], 0⟩
theorem upd_swap {α : Type} {f : Nat → α} {i j : Nat} {X Y Z : α} (h : i ≠ j) : upd (upd (upd f i X) j Y) i Z = upd (upd f i Z) j Y := by
  funext k
  by_cases e : k = i
  · subst e; rw [upd_same, upd_ne _ _ h, upd_same]
  · by_cases e2 : k = j
    · subst e2; rw [upd_ne _ _ e, upd_same, upd_same]
    · rw [upd_ne _ _ e, upd_ne _ _ e2, upd_ne _ _ e, upd_ne _ _ e2, upd_ne _ _ e]
theorem zero_own (H : Heap) (S : Nat → Prop) (e : Int) : Own H S (.tuple [.agg [.empty, .int .i64 0], .int .i64 e]) (.tuple [.agg (Fs.cells ⟨[], 0⟩), .int .i64 e]) :=
  OwnL.tuple (.cons (OwnL.agg (.cons .nothing (.cons (.int _ _) .nil))) (.cons (.int _ _) .nil))
theorem FrO.own {H : Heap} {S : Nat → Prop} {b : Nat} {l : List Fr} {m : List (AV × AV)} (h : FrO H S b l m) (h0 : 0 < l.length) (hand : Int) : Own H S (.agg [.slice b 0 l.length none 6, .int .i64 hand]) (.agg (Fs.cells ⟨l, hand⟩)) :=
  OwnF.own (f := ⟨l, hand⟩) (.inr ⟨h0, b, m, h.1, rfl, h.2.1, h.2.2.flat⟩)
theorem args_turn56 {c : Cf} {f : Fs} {at_ : Int} {w : AV} {g : FuncId} {cap : List AV} (hw : Pur w) (hcap : ∀ x, x ∈ cap → Pur x) : ∀ x, x ∈ [AV.agg c.cells, .agg f.cells, .int .i64 at_, w, .func (.func g) [] cap] → Pur x := by
  intro x hx
  simp only [List.mem_cons, List.not_mem_nil, or_false] at hx
  rcases hx with rfl | rfl | rfl | rfl | rfl
  · exact cf_pur c
  · exact fsa_pur f
  · exact .int _ _
  · exact hw
  · exact .func (fun _ h => (nomatch h)) hcap
theorem nf105 (c : Cf) (f : Fs) (at_ : Int) (w : AV) (g : FuncId) (cap : List AV) (E : Fr → Int) (V : Fr → Fr) (hl : f.l.length ≤ 1000000) (hd : ∀ x, x ∈ f.l → x.d.length ≤ 1000000 ∧ x.pins.length ≤ 1000000) (hw : Pur w) (hcap : ∀ x, x ∈ cap → Pur x) (hg : Callable Tryz.prog g)
    (hdo : okF c f = true → ∀ (a : Nat) u, at_ = a → f.l[a]? = some u → DoS g w cap f.l a (E u) (V u)) : NF Tryz.prog 105 [.agg c.cells, .agg f.cells, .int .i64 at_, w, .func (.func g) [] cap] (fun r => r = .tuple [.agg (turnF c f at_ E V).cells, .int .i64 (turnE c f at_ E)]) := by
  have h11 := pf43 c f hl (fun x hx => (hd x hx).2)
  have hp := args_turn56 (c := c) (f := f) (at_ := at_) (g := g) hw hcap
  refine nf_of_w0 Tryz.func105 (c := _) rfl rfl (Nat.le_of_ble_eq_true rfl) hp ?_
  rw [show Tryz.f105.ntmps = 46 from rfl]
  cases hok : okF c f with
  | false =>
    have ev : eF c f = 8 := by simp [eF, hok]
    have e1 : turnE c f at_ E = 8 := by simp [turnE, hok]
    have e2 : turnF c f at_ E V = ⟨[], 0⟩ := by simp [turnF, e1]
    rw [e1, e2]
    have tE := aI uU <| aI Cf.cells.eq_1 <| aI Fs.cells.eq_1 <| aI ev <| tfG30.down; repeat' first | (refine Red.h ?_) | ((with_reducible first | apply wz tkG3 | apply wr_z tkG3); exact zZ; decide) | ((with_reducible first | apply w_alloc tkG3); exact zT; decide) | ((with_reducible first | apply w_store tkG3); exact zV; exact zV; exact zS) | ((with_reducible first | apply wcall' | apply wr_call); exact zV; exact zVs; exact zAs; (focus (with_unfolding_all first | exact h11)); decide) | ((with_reducible first | apply w_ift'); exact zV; exact zU) | ((with_reducible apply w_ret); (repeat refine Red.h ?_); (with_reducible first | apply donef_ret tkG3 | apply doneA_ret tkG3); exact zT; exact zD) | fail
    all_goals try clear tE
    exact ⟨_, _, rfl, zero_own _ _ 8, rfl⟩
  | true =>
    have ev : eF c f = 0 := by simp [eF, hok]
    by_cases a0 : at_ < 0
    · have a0' : (at_ < 0) = True := eq_true a0
      have e1 : turnE c f at_ E = 2 := by simp [turnE, hok, a0]
      have e2 : turnF c f at_ E V = ⟨[], 0⟩ := by simp [turnF, e1]
      rw [e1, e2]
      have tE := aI uU <| aI Cf.cells.eq_1 <| aI Fs.cells.eq_1 <| aI ev <| aI a0' <| tfG30.down; repeat' first | (refine Red.h ?_) | ((with_reducible first | apply wz tkG3 | apply wr_z tkG3); exact zZ; decide) | ((with_reducible first | apply wskip' | apply wr_skip); exact zU; exact zL; exact zU; decide) | ((with_reducible first | apply w_alloc tkG3); exact zT; decide) | ((with_reducible first | apply w_store tkG3); exact zV; exact zV; exact zS) | ((with_reducible first | apply wcall' | apply wr_call); exact zV; exact zVs; exact zAs; (focus (with_unfolding_all first | exact h11)); decide) | ((with_reducible first | apply w_ift'); exact zV; exact zU) | ((with_reducible first | apply w_iff'); exact zV; exact zU) | ((with_reducible apply w_ret); (repeat refine Red.h ?_); (with_reducible first | apply donef_ret tkG3 | apply doneA_ret tkG3); exact zT; exact zD) | fail
      all_goals try clear tE
      exact ⟨_, _, rfl, zero_own _ _ 2, rfl⟩
    · have a0' : (at_ < 0) = False := eq_false a0
      by_cases a1 : at_ ≥ f.l.length
      · have a1' : (at_ ≥ (f.l.length : Int)) = True := eq_true a1
        have e1 : turnE c f at_ E = 2 := by rw [turnE, if_pos hok, if_pos (.inr a1)]
        have e2 : turnF c f at_ E V = ⟨[], 0⟩ := by simp [turnF, e1]
        rw [e1, e2]
        have tE := aI uU <| aI Cf.cells.eq_1 <| aI Fs.cells.eq_1 <| aI ev <| aI a0' <| aI a1' <| aI frRows_len <| tfG30.down; repeat' first | (refine Red.h ?_) | ((with_reducible first | apply wz tkG3 | apply wr_z tkG3); exact zZ; decide) | ((with_reducible first | apply wzg tkG3 | apply wr_zg tkG3); exact zU; exact zL; exact zU; exact zZ; decide) | ((with_reducible first | apply w_alloc tkG3); exact zT; decide) | ((with_reducible first | apply w_store tkG3); exact zV; exact zV; exact zS) | ((with_reducible first | apply wcall' | apply wr_call); exact zV; exact zVs; exact zAs; (focus (with_unfolding_all first | exact h11)); decide) | ((with_reducible first | apply w_ift'); exact zV; exact zU) | ((with_reducible first | apply w_iff'); exact zV; exact zU) | ((with_reducible apply w_ret); (repeat refine Red.h ?_); (with_reducible first | apply donef_ret tkG3 | apply doneA_ret tkG3); exact zT; exact zD) | fail
        all_goals try clear tE
        exact ⟨_, _, rfl, zero_own _ _ 2, rfl⟩
      · have a1' : (at_ ≥ (f.l.length : Int)) = False := eq_false a1
        obtain ⟨a, rfl⟩ : ∃ a : Nat, at_ = a := ⟨at_.toNat, by omega⟩
        have hal : a < f.l.length := by omega
        have hu : f.l[a]? = some f.l[a] := List.getElem?_eq_getElem hal
        generalize f.l[a] = u at hu
        have e1 : turnE c f a E = E u := by rw [turnE, if_pos hok, if_neg (by omega), Int.toNat_natCast, hu]
        have e2 : turnF c f a E V = if E u = 0 then ⟨f.l.set a (V u), f.h⟩ else ⟨[], 0⟩ := by rw [turnF, e1, Int.toNat_natCast, hu]
        rw [e1, e2]
        have tE := aI uU <| aI Cf.cells.eq_1 <| aI Fs.cells.eq_1 <| aI ev <| aI a0' <| aI a1' <| aI frRows_len <| tfG30.down; repeat' first | (refine Red.h ?_) | ((with_reducible first | apply wz tkG3 | apply wr_z tkG3); exact zZ; decide) | ((with_reducible first | apply wzg tkG3 | apply wr_zg tkG3); exact zU; exact zL; exact zU; exact zZ; decide) | ((with_reducible first | apply w_alloc tkG3); exact zT; decide) | ((with_reducible first | apply wcall' | apply wr_call); exact zV; exact zVs; exact zAs; (focus (with_unfolding_all first | exact h11)); decide) | ((with_reducible first | apply w_iff'); exact zV; exact zU) | fail
        all_goals try clear tE
        (have tE := aI uU <| aI Cf.cells.eq_1 <| Fs.cells.eq_1; (with_reducible apply wacall); exact zV; exact zVs; exact zAs; exact cal40; (focus (with_unfolding_all exact ac40z f hl hd _ _)); decide; clear tE)
        rintro r H' k0 ⟨hn', hold, htop, x, rfl, hown⟩
        have hk0 : 1 ≤ k0 := hn'
        rcases hown with ⟨hz, _⟩ | ⟨hl0, b, m, hb1, rfl, hbH, hm⟩
        · rw [hz] at hal; cases hal
        have hbk : b < k0 := by
          rcases Nat.lt_or_ge b k0 with hx | hx
          · exact hx
          · rw [htop b hx] at hbH; cases hbH
        have hb1 : 1 ≤ b := hb1
        have e0 := hold 0 _ rfl
        have g0 : (0 ≤ (a : Int)) = True := by simp
        have g1 : ((a : Int) < (f.l.length : Int)) = True := by simp; exact hal
        have q0 : ((0 : Nat) == k0) = false := by rw [beq_eq_false_iff_ne]; omega
        have tE := aI uU <| aI e0 <| aI g0 <| aI g1 <| aI q0 <| tfG30.down; repeat' first | (refine Red.h ?_) | ((with_reducible first | apply wz tkG3 | apply wr_z tkG3); exact zZ; decide) | ((with_reducible first | apply w_alloc tkG3); exact zT; decide) | ((with_reducible first | apply w_store tkG3); exact zV; exact zV; exact zS) | fail
        all_goals try clear tE
        have hF : FrO (upd H' k0 (some (.cells [.slice b 0 f.l.length none 6, .int .i64 f.h] 26))) (fun x => 1 ≤ x ∧ x < k0) b f.l m := by
          obtain ⟨hm1, gg, hm2⟩ := hm
          refine ⟨⟨hb1, hbk⟩, by rw [upd_ne _ _ (by omega)]; exact hbH, hm1, gg, fun j v z hv hz => ?_⟩
          have hmv : ∀ q id c, ((1 ≤ id ∧ id ≠ b) ∧ gg id = q) → H' id = some c → (((1 ≤ id ∧ id < k0) ∧ id ≠ b) ∧ gg id = q) ∧ upd H' k0 (some (.cells [.slice b 0 f.l.length none 6, .int .i64 f.h] 26)) id = some c := fun q id c hid hc => by
            have hlt : id < k0 := by
              rcases Nat.lt_or_ge id k0 with hx' | hx'
              · exact hx'
              · rw [htop id hx'] at hc; cases hc
            exact ⟨⟨⟨⟨hid.1.1, hlt⟩, hid.1.2⟩, hid.2⟩, by rw [upd_ne _ _ (by omega)]; exact hc⟩
          exact ⟨(hm2 j v z hv hz).1.mv (hmv _), (hm2 j v z hv hz).2.mv (hmv _)⟩
        have hcl := hdo hok a u rfl hu _ (k0 + 1) _ b m hF (fun id hid => by omega) (fun id hid => by rw [upd_ne _ _ (by omega)]; exact htop id (by omega))
        have e0k : upd H' k0 (some (.cells [.slice b 0 f.l.length none 6, .int .i64 f.h] 26)) 0 = H' 0 := upd_ne _ _ (by omega)
        have ekk : upd H' k0 (some (.cells [.slice b 0 f.l.length none 6, .int .i64 f.h] 26)) k0 = some (.cells [.slice b 0 f.l.length none 6, .int .i64 f.h] 26) := upd_same _ _ _
        generalize upd H' k0 (some (.cells [.slice b 0 f.l.length none 6, .int .i64 f.h] 26)) = HX at hF hcl e0k ekk
        rw [e0] at e0k
        (have tE := uU; (with_reducible apply wacall); exact zV; exact zVs; exact zAs; exact hg; (focus (with_unfolding_all exact hcl)); decide; clear tE)
        rintro r H'' n'' ⟨rfl, hres⟩
        rcases hres with ⟨hE, rfl⟩ | ⟨hE, m', hF', hkeep⟩
        · have hE' : (E u != 0) = true := by simpa using hE
          have tE := aI uU <| aI e0k <| aI ekk <| aI hE' <| tfG30.down; repeat' first | (refine Red.h ?_) | ((with_reducible first | apply wz tkG3 | apply wr_z tkG3); exact zZ; decide) | ((with_reducible first | apply w_store tkG3); exact zV; exact zV; exact zS) | ((with_reducible first | apply w_ift'); exact zV; exact zU) | ((with_reducible apply w_ret); (repeat refine Red.h ?_); (with_reducible first | apply donef_ret tkG3 | apply doneA_ret tkG3); exact zT; exact zD) | fail
          all_goals try clear tE
          rw [if_neg hE]
          exact ⟨_, _, rfl, zero_own _ _ _, rfl⟩
        · have hE' : (E u != 0) = false := by simp [hE]
          have f0 := hkeep 0 (by omega) (fun h => by omega)
          have fk := hkeep k0 (by omega) (fun h => by omega)
          rw [e0k] at f0
          rw [ekk] at fk
          have tE := aI uU <| aI f0 <| aI fk <| aI hE' <| tfG30.down; repeat' first | (refine Red.h ?_) | ((with_reducible first | apply wz tkG3 | apply wr_z tkG3); exact zZ; decide) | ((with_reducible first | apply w_store tkG3); exact zV; exact zV; exact zS) | ((with_reducible first | apply w_iff'); exact zV; exact zU) | ((with_reducible apply w_ret); (repeat refine Red.h ?_); (with_reducible first | apply donef_ret tkG3 | apply doneA_ret tkG3); exact zT; exact zD) | fail
          all_goals try clear tE
          rw [if_pos hE, hE]
          have ho := FrO.own hF' (by rw [List.length_set]; exact hl0) f.h
          rw [List.length_set] at ho
          refine ⟨_, _, rfl, OwnL.tuple (.cons (ho.mv (fun id c hid hc => ⟨trivial, ?_⟩)) (.cons (.int _ _) .nil)), rfl⟩
          rw [upd_ne _ _ (by omega)]; exact hc
theorem args_turn62 {c : Cf} {f : Fs} {at_ : Int} {w : AV} {g : FuncId} {cap : List AV} (hw : Pur w) (hcap : ∀ x, x ∈ cap → Pur x) : ∀ x, x ∈ [AV.agg c.cells, .agg f.cells, .int .i64 at_, w, .func (.func g) [] cap] → Pur x := by
  intro x hx
  simp only [List.mem_cons, List.not_mem_nil, or_false] at hx
  rcases hx with rfl | rfl | rfl | rfl | rfl
  · exact cf_pur c
  · exact fsa_pur f
  · exact .int _ _
  · exact hw
  · exact .func (fun _ h => (nomatch h)) hcap
theorem nf90 (c : Cf) (f : Fs) (at_ : Int) (w : AV) (g : FuncId) (cap : List AV) (E : Fr → Int) (V : Fr → Fr) (hl : f.l.length ≤ 1000000) (hd : ∀ x, x ∈ f.l → x.d.length ≤ 1000000 ∧ x.pins.length ≤ 1000000) (hw : Pur w) (hcap : ∀ x, x ∈ cap → Pur x) (hg : Callable Tryz.prog g)
    (hdo : okF c f = true → ∀ (a : Nat) u, at_ = a → f.l[a]? = some u → DoS g w cap f.l a (E u) (V u)) : NF Tryz.prog 90 [.agg c.cells, .agg f.cells, .int .i64 at_, w, .func (.func g) [] cap] (fun r => r = .tuple [.agg (turnF c f at_ E V).cells, .int .i64 (turnE c f at_ E)]) := by
  have h11 := pf43 c f hl (fun x hx => (hd x hx).2)
  have hp := args_turn62 (c := c) (f := f) (at_ := at_) (g := g) hw hcap
  refine nf_of_w0 Tryz.func90 (c := _) rfl rfl (Nat.le_of_ble_eq_true rfl) hp ?_
  rw [show Tryz.f90.ntmps = 46 from rfl]
  cases hok : okF c f with
  | false =>
    have ev : eF c f = 8 := by simp [eF, hok]
    have e1 : turnE c f at_ E = 8 := by simp [turnE, hok]
    have e2 : turnF c f at_ E V = ⟨[], 0⟩ := by simp [turnF, e1]
    rw [e1, e2]
    have tE := aI uU <| aI Cf.cells.eq_1 <| aI Fs.cells.eq_1 <| aI ev <| tfG31.down; repeat' first | (refine Red.h ?_) | ((with_reducible first | apply wz tkG3 | apply wr_z tkG3); exact zZ; decide) | ((with_reducible first | apply w_alloc tkG3); exact zT; decide) | ((with_reducible first | apply w_store tkG3); exact zV; exact zV; exact zS) | ((with_reducible first | apply wcall' | apply wr_call); exact zV; exact zVs; exact zAs; (focus (with_unfolding_all first | exact h11)); decide) | ((with_reducible first | apply w_ift'); exact zV; exact zU) | ((with_reducible apply w_ret); (repeat refine Red.h ?_); (with_reducible first | apply donef_ret tkG3 | apply doneA_ret tkG3); exact zT; exact zD) | fail
    all_goals try clear tE
    exact ⟨_, _, rfl, zero_own _ _ 8, rfl⟩
  | true =>
    have ev : eF c f = 0 := by simp [eF, hok]
    by_cases a0 : at_ < 0
    · have a0' : (at_ < 0) = True := eq_true a0
      have e1 : turnE c f at_ E = 2 := by simp [turnE, hok, a0]
      have e2 : turnF c f at_ E V = ⟨[], 0⟩ := by simp [turnF, e1]
      rw [e1, e2]
      have tE := aI uU <| aI Cf.cells.eq_1 <| aI Fs.cells.eq_1 <| aI ev <| aI a0' <| tfG31.down; repeat' first | (refine Red.h ?_) | ((with_reducible first | apply wz tkG3 | apply wr_z tkG3); exact zZ; decide) | ((with_reducible first | apply wskip' | apply wr_skip); exact zU; exact zL; exact zU; decide) | ((with_reducible first | apply w_alloc tkG3); exact zT; decide) | ((with_reducible first | apply w_store tkG3); exact zV; exact zV; exact zS) | ((with_reducible first | apply wcall' | apply wr_call); exact zV; exact zVs; exact zAs; (focus (with_unfolding_all first | exact h11)); decide) | ((with_reducible first | apply w_ift'); exact zV; exact zU) | ((with_reducible first | apply w_iff'); exact zV; exact zU) | ((with_reducible apply w_ret); (repeat refine Red.h ?_); (with_reducible first | apply donef_ret tkG3 | apply doneA_ret tkG3); exact zT; exact zD) | fail
      all_goals try clear tE
      exact ⟨_, _, rfl, zero_own _ _ 2, rfl⟩
    · have a0' : (at_ < 0) = False := eq_false a0
      by_cases a1 : at_ ≥ f.l.length
      · have a1' : (at_ ≥ (f.l.length : Int)) = True := eq_true a1
        have e1 : turnE c f at_ E = 2 := by rw [turnE, if_pos hok, if_pos (.inr a1)]
        have e2 : turnF c f at_ E V = ⟨[], 0⟩ := by simp [turnF, e1]
        rw [e1, e2]
        have tE := aI uU <| aI Cf.cells.eq_1 <| aI Fs.cells.eq_1 <| aI ev <| aI a0' <| aI a1' <| aI frRows_len <| tfG31.down; repeat' first | (refine Red.h ?_) | ((with_reducible first | apply wz tkG3 | apply wr_z tkG3); exact zZ; decide) | ((with_reducible first | apply wzg tkG3 | apply wr_zg tkG3); exact zU; exact zL; exact zU; exact zZ; decide) | ((with_reducible first | apply w_alloc tkG3); exact zT; decide) | ((with_reducible first | apply w_store tkG3); exact zV; exact zV; exact zS) | ((with_reducible first | apply wcall' | apply wr_call); exact zV; exact zVs; exact zAs; (focus (with_unfolding_all first | exact h11)); decide) | ((with_reducible first | apply w_ift'); exact zV; exact zU) | ((with_reducible first | apply w_iff'); exact zV; exact zU) | ((with_reducible apply w_ret); (repeat refine Red.h ?_); (with_reducible first | apply donef_ret tkG3 | apply doneA_ret tkG3); exact zT; exact zD) | fail
        all_goals try clear tE
        exact ⟨_, _, rfl, zero_own _ _ 2, rfl⟩
      · have a1' : (at_ ≥ (f.l.length : Int)) = False := eq_false a1
        obtain ⟨a, rfl⟩ : ∃ a : Nat, at_ = a := ⟨at_.toNat, by omega⟩
        have hal : a < f.l.length := by omega
        have hu : f.l[a]? = some f.l[a] := List.getElem?_eq_getElem hal
        generalize f.l[a] = u at hu
        have e1 : turnE c f a E = E u := by rw [turnE, if_pos hok, if_neg (by omega), Int.toNat_natCast, hu]
        have e2 : turnF c f a E V = if E u = 0 then ⟨f.l.set a (V u), f.h⟩ else ⟨[], 0⟩ := by rw [turnF, e1, Int.toNat_natCast, hu]
        rw [e1, e2]
        have tE := aI uU <| aI Cf.cells.eq_1 <| aI Fs.cells.eq_1 <| aI ev <| aI a0' <| aI a1' <| aI frRows_len <| tfG31.down; repeat' first | (refine Red.h ?_) | ((with_reducible first | apply wz tkG3 | apply wr_z tkG3); exact zZ; decide) | ((with_reducible first | apply wzg tkG3 | apply wr_zg tkG3); exact zU; exact zL; exact zU; exact zZ; decide) | ((with_reducible first | apply w_alloc tkG3); exact zT; decide) | ((with_reducible first | apply wcall' | apply wr_call); exact zV; exact zVs; exact zAs; (focus (with_unfolding_all first | exact h11)); decide) | ((with_reducible first | apply w_iff'); exact zV; exact zU) | fail
        all_goals try clear tE
        (have tE := aI uU <| aI Cf.cells.eq_1 <| Fs.cells.eq_1; (with_reducible apply wacall); exact zV; exact zVs; exact zAs; exact cal40; (focus (with_unfolding_all exact ac40z f hl hd _ _)); decide; clear tE)
        rintro r H' k0 ⟨hn', hold, htop, x, rfl, hown⟩
        have hk0 : 1 ≤ k0 := hn'
        rcases hown with ⟨hz, _⟩ | ⟨hl0, b, m, hb1, rfl, hbH, hm⟩
        · rw [hz] at hal; cases hal
        have hbk : b < k0 := by
          rcases Nat.lt_or_ge b k0 with hx | hx
          · exact hx
          · rw [htop b hx] at hbH; cases hbH
        have hb1 : 1 ≤ b := hb1
        have e0 := hold 0 _ rfl
        have g0 : (0 ≤ (a : Int)) = True := by simp
        have g1 : ((a : Int) < (f.l.length : Int)) = True := by simp; exact hal
        have q0 : ((0 : Nat) == k0) = false := by rw [beq_eq_false_iff_ne]; omega
        have tE := aI uU <| aI e0 <| aI g0 <| aI g1 <| aI q0 <| tfG31.down; repeat' first | (refine Red.h ?_) | ((with_reducible first | apply wz tkG3 | apply wr_z tkG3); exact zZ; decide) | ((with_reducible first | apply w_alloc tkG3); exact zT; decide) | ((with_reducible first | apply w_store tkG3); exact zV; exact zV; exact zS) | fail
        all_goals try clear tE
        have hF : FrO (upd H' k0 (some (.cells [.slice b 0 f.l.length none 6, .int .i64 f.h] 26))) (fun x => 1 ≤ x ∧ x < k0) b f.l m := by
          obtain ⟨hm1, gg, hm2⟩ := hm
          refine ⟨⟨hb1, hbk⟩, by rw [upd_ne _ _ (by omega)]; exact hbH, hm1, gg, fun j v z hv hz => ?_⟩
          have hmv : ∀ q id c, ((1 ≤ id ∧ id ≠ b) ∧ gg id = q) → H' id = some c → (((1 ≤ id ∧ id < k0) ∧ id ≠ b) ∧ gg id = q) ∧ upd H' k0 (some (.cells [.slice b 0 f.l.length none 6, .int .i64 f.h] 26)) id = some c := fun q id c hid hc => by
            have hlt : id < k0 := by
              rcases Nat.lt_or_ge id k0 with hx' | hx'
              · exact hx'
              · rw [htop id hx'] at hc; cases hc
            exact ⟨⟨⟨⟨hid.1.1, hlt⟩, hid.1.2⟩, hid.2⟩, by rw [upd_ne _ _ (by omega)]; exact hc⟩
          exact ⟨(hm2 j v z hv hz).1.mv (hmv _), (hm2 j v z hv hz).2.mv (hmv _)⟩
        have hcl := hdo hok a u rfl hu _ (k0 + 1) _ b m hF (fun id hid => by omega) (fun id hid => by rw [upd_ne _ _ (by omega)]; exact htop id (by omega))
        have e0k : upd H' k0 (some (.cells [.slice b 0 f.l.length none 6, .int .i64 f.h] 26)) 0 = H' 0 := upd_ne _ _ (by omega)
        have ekk : upd H' k0 (some (.cells [.slice b 0 f.l.length none 6, .int .i64 f.h] 26)) k0 = some (.cells [.slice b 0 f.l.length none 6, .int .i64 f.h] 26) := upd_same _ _ _
        generalize upd H' k0 (some (.cells [.slice b 0 f.l.length none 6, .int .i64 f.h] 26)) = HX at hF hcl e0k ekk
        rw [e0] at e0k
        (have tE := uU; (with_reducible apply wacall); exact zV; exact zVs; exact zAs; exact hg; (focus (with_unfolding_all exact hcl)); decide; clear tE)
        rintro r H'' n'' ⟨rfl, hres⟩
        rcases hres with ⟨hE, rfl⟩ | ⟨hE, m', hF', hkeep⟩
        · have hE' : (E u != 0) = true := by simpa using hE
          have tE := aI uU <| aI e0k <| aI ekk <| aI hE' <| tfG31.down; repeat' first | (refine Red.h ?_) | ((with_reducible first | apply wz tkG3 | apply wr_z tkG3); exact zZ; decide) | ((with_reducible first | apply w_store tkG3); exact zV; exact zV; exact zS) | ((with_reducible first | apply w_ift'); exact zV; exact zU) | ((with_reducible apply w_ret); (repeat refine Red.h ?_); (with_reducible first | apply donef_ret tkG3 | apply doneA_ret tkG3); exact zT; exact zD) | fail
          all_goals try clear tE
          rw [if_neg hE]
          exact ⟨_, _, rfl, zero_own _ _ _, rfl⟩
        · have hE' : (E u != 0) = false := by simp [hE]
          have f0 := hkeep 0 (by omega) (fun h => by omega)
          have fk := hkeep k0 (by omega) (fun h => by omega)
          rw [e0k] at f0
          rw [ekk] at fk
          have tE := aI uU <| aI f0 <| aI fk <| aI hE' <| tfG31.down; repeat' first | (refine Red.h ?_) | ((with_reducible first | apply wz tkG3 | apply wr_z tkG3); exact zZ; decide) | ((with_reducible first | apply w_store tkG3); exact zV; exact zV; exact zS) | ((with_reducible first | apply w_iff'); exact zV; exact zU) | ((with_reducible apply w_ret); (repeat refine Red.h ?_); (with_reducible first | apply donef_ret tkG3 | apply doneA_ret tkG3); exact zT; exact zD) | fail
          all_goals try clear tE
          rw [if_pos hE, hE]
          have ho := FrO.own hF' (by rw [List.length_set]; exact hl0) f.h
          rw [List.length_set] at ho
          refine ⟨_, _, rfl, OwnL.tuple (.cons (ho.mv (fun id c hid hc => ⟨trivial, ?_⟩)) (.cons (.int _ _) .nil)), rfl⟩
          rw [upd_ne _ _ (by omega)]; exact hc
end Go.Proofs.YtlmighkbeacjnaaGreatDoor


open Go Go.Lg
set_option linter.unusedSimpArgs false
set_option linter.unusedVariables false
set_option maxHeartbeats 4000000
set_option maxRecDepth 20000
namespace Go.Proofs.YtlmighkbeacjnaaGreatDoor
theorem tkG4 : TOK Tryz.prog (tyOf Tryz.prog) := tok Tryz.prog
def tfG40 := PLift.up (aI ty3 <| aI ty4 <| aI ty5 <| aI ty23 <| aI ty24 <| aI ty26 <| aI ty28 <| aI ty72 <| aI ty74 <| Tryz.results139)
def loadE (c : Cf) (f : Fs) (at_ page cl : Int) (u : Fr) : Int := if u.k = 1 ∨ pinned u = true ∨ page < 0 ∨ page ≥ c.p ∨ cl < 0 ∨ cl ≥ c.cl ∨ (fidx (isAt page) f.l 0 ≥ 0 ∧ fidx (isAt page) f.l 0 ≠ at_) then 2 else 0
def loadV (c : Cf) (page cl : Int) (u : Fr) : Fr := ⟨1, page, [], (List.replicate c.cl.toNat 0).set cl.toNat 1, true, false⟩
theorem do139 (c : Cf) (f : Fs) (page cl : Int) {at_ : Nat} {u : Fr} (hl : f.l.length ≤ 1000000) (hpx : u.pins.length ≤ 1000000) (hc : 0 ≤ c.cl ∧ c.cl ≤ 1000000) (hu : f.l[at_]? = some u) : DoS 139 (.int .i64 cl) [.vptr f.cells, .vptr [.int .i64 page], .vptr c.cells, .vptr [.int .i64 at_]] f.l at_ (loadE c f at_ page cl u) (loadV c page cl u) := by
  intro H n S b m hF hSn htop
  obtain ⟨ab, hab⟩ : ∃ ab, m[at_]? = some ab := ⟨m[at_]'(by rw [hF.len]; exact (List.getElem?_eq_some_iff.1 hu).1), List.getElem?_eq_getElem _⟩
  have hlt := (List.getElem?_eq_some_iff.1 hu).1
  have eb := hF.2.1
  have hSb := hF.1
  have hbn := hSn b hSb
  have hfl := oFlat_len hF.len
  have hof : ∀ X : Heap, (∀ id, id ≠ b → id < n → X id = H id) → ∀ id, id < n → ¬ S id → X id = H id := fun X hX id hid hs => hX id (fun e => hs (e ▸ hSb)) hid
  have w0 : ((oRows f.l m).flatten.drop (at_ * 6))[0]? = some (.int .u8 u.k) := drop_head (oFlat_at hu hab (j := 0) (by decide))
  have b0 : (at_ * 6 + 1 ≤ (oRows f.l m).flatten.length) = True := by rw [hfl]; simp; omega
  have hrow := flat_row (oRows_row _ _) (oRows_at hu hab)
  have b6 : (6 ≤ ((oRows f.l m).flatten.drop (at_ * 6)).length) = True := by rw [List.length_drop, hfl]; simp; omega
  have h58 := pf103 f page hl
  have hl49 : AC Tryz.prog 122 [.agg (oRow u ab)] H n (fun r h' n' => r = .ret (.bool (pinned u)) ∧ h' = H ∧ n' = n) :=
    PF.look (pf122 u hpx) (.bool _) _ _ (.cons (FzL.agg (.cons (.pur (.int _ _)) (.cons (.pur (.int _ _)) (.cons (hF.2.2.flat.2 at_ u ab hu hab).1.fz (.cons (hF.2.2.flat.2 at_ u ab hu hab).2.fz (.cons (.pur (.bool _)) (.cons (.pur (.bool _)) .nil))))))) .nil)
  have hat0 : ∀ x : Int, ((x != (at_ : Int)) = true) = (x ≠ (at_ : Int)) := fun x => by simp
  refine ac_of_w Tryz.func139 (c := _) rfl (Nat.le_of_ble_eq_true rfl) ?_
  rw [show Tryz.f139.ntmps = 69 from rfl]
  simp only [List.cons_append, List.nil_append]
  by_cases hk : u.k = 1
  · have k1 : (u.k == 1) = true := by simpa using hk
    rw [show loadE c f at_ page cl u = 2 from if_pos (.inl hk)]
    have tE := aI uU <| aI eb <| aI hrow <| aI b6 <| aI w0 <| aI b0 <| aI k1 <| aI Cf.cells.eq_1 <| aI Fs.cells.eq_1 <| aI Nat.add_zero <| tfG40.down; repeat' first | (refine Red.h ?_) | ((with_reducible first | apply wz tkG4 | apply wr_z tkG4); exact zZ; decide) | ((with_reducible first | apply wskip' | apply wr_skip); exact zU; exact zL; exact zU; decide) | ((with_reducible first | apply wcall' | apply wr_call); exact zV; exact zVs; exact zAs; (focus (with_unfolding_all first | exact h58)); decide) | ((with_reducible first | apply w_ift'); exact zV; exact zU) | ((with_reducible apply w_ret); (repeat refine Red.h ?_); (with_reducible first | apply donef_ret tkG4 | apply doneA_ret tkG4); exact zT; exact zD) | fail
    all_goals try clear tE
    exact ⟨rfl, .inl ⟨by decide, rfl⟩⟩
  have k1 : (u.k == 1) = false := by simpa using hk
  by_cases hpin : pinned u = true
  · have p1 : pinned u = true := hpin
    rw [show loadE c f at_ page cl u = 2 from if_pos (.inr (.inl hpin))]
    have tE := aI uU <| aI eb <| aI hrow <| aI b6 <| aI w0 <| aI b0 <| aI k1 <| aI p1 <| aI Cf.cells.eq_1 <| aI Fs.cells.eq_1 <| aI Nat.add_zero <| tfG40.down; repeat' first | (refine Red.h ?_) | ((with_reducible first | apply wz tkG4 | apply wr_z tkG4); exact zZ; decide) | ((with_reducible first | apply wzg tkG4 | apply wr_zg tkG4); exact zU; exact zL; exact zU; exact zZ; decide) | ((with_reducible first | apply wskip' | apply wr_skip); exact zU; exact zL; exact zU; decide) | ((with_reducible first | apply wcall' | apply wr_call); exact zV; exact zVs; exact zAs; (focus (with_unfolding_all first | exact h58)); decide) | ((with_reducible first | apply wacallg'); exact zU; exact zL; exact zU; exact zV; exact zVs; exact zAs; (focus (first | exact ⟨_, Tryz.func122, rfl, rfl⟩)); (focus (with_unfolding_all first | exact hl49)); decide) | ((with_reducible first | apply w_ift'); exact zV; exact zU) | ((with_reducible apply w_ret); (repeat refine Red.h ?_); (with_reducible first | apply donef_ret tkG4 | apply doneA_ret tkG4); exact zT; exact zD) | fail
    all_goals try clear tE
    exact ⟨rfl, .inl ⟨by decide, rfl⟩⟩
  have p1 : pinned u = false := by simpa using hpin
  by_cases hp0 : page < 0
  · have p2 : (page < 0) = True := eq_true hp0
    rw [show loadE c f at_ page cl u = 2 from if_pos (.inr (.inr (.inl hp0)))]
    have tE := aI uU <| aI eb <| aI hrow <| aI b6 <| aI w0 <| aI b0 <| aI k1 <| aI p1 <| aI p2 <| aI Cf.cells.eq_1 <| aI Fs.cells.eq_1 <| aI Nat.add_zero <| tfG40.down; repeat' first | (refine Red.h ?_) | ((with_reducible first | apply wz tkG4 | apply wr_z tkG4); exact zZ; decide) | ((with_reducible first | apply wzg tkG4 | apply wr_zg tkG4); exact zU; exact zL; exact zU; exact zZ; decide) | ((with_reducible first | apply wskip' | apply wr_skip); exact zU; exact zL; exact zU; decide) | ((with_reducible first | apply wcall' | apply wr_call); exact zV; exact zVs; exact zAs; (focus (with_unfolding_all first | exact h58)); decide) | ((with_reducible first | apply wacallg'); exact zU; exact zL; exact zU; exact zV; exact zVs; exact zAs; (focus (first | exact ⟨_, Tryz.func122, rfl, rfl⟩)); (focus (with_unfolding_all first | exact hl49)); decide) | ((with_reducible first | apply w_ift'); exact zV; exact zU) | ((with_reducible apply w_ret); (repeat refine Red.h ?_); (with_reducible first | apply donef_ret tkG4 | apply doneA_ret tkG4); exact zT; exact zD) | fail
    all_goals try clear tE
    exact ⟨rfl, .inl ⟨by decide, rfl⟩⟩
  have p2 : (page < 0) = False := eq_false hp0
  by_cases hp1 : page ≥ c.p
  · have p3 : (page ≥ c.p) = True := eq_true hp1
    rw [show loadE c f at_ page cl u = 2 from if_pos (.inr (.inr (.inr (.inl hp1))))]
    have tE := aI uU <| aI eb <| aI hrow <| aI b6 <| aI w0 <| aI b0 <| aI k1 <| aI p1 <| aI p2 <| aI p3 <| aI Cf.cells.eq_1 <| aI Fs.cells.eq_1 <| aI Nat.add_zero <| tfG40.down; repeat' first | (refine Red.h ?_) | ((with_reducible first | apply wz tkG4 | apply wr_z tkG4); exact zZ; decide) | ((with_reducible first | apply wzg tkG4 | apply wr_zg tkG4); exact zU; exact zL; exact zU; exact zZ; decide) | ((with_reducible first | apply wskip' | apply wr_skip); exact zU; exact zL; exact zU; decide) | ((with_reducible first | apply wcall' | apply wr_call); exact zV; exact zVs; exact zAs; (focus (with_unfolding_all first | exact h58)); decide) | ((with_reducible first | apply wacallg'); exact zU; exact zL; exact zU; exact zV; exact zVs; exact zAs; (focus (first | exact ⟨_, Tryz.func122, rfl, rfl⟩)); (focus (with_unfolding_all first | exact hl49)); decide) | ((with_reducible first | apply w_ift'); exact zV; exact zU) | ((with_reducible apply w_ret); (repeat refine Red.h ?_); (with_reducible first | apply donef_ret tkG4 | apply doneA_ret tkG4); exact zT; exact zD) | fail
    all_goals try clear tE
    exact ⟨rfl, .inl ⟨by decide, rfl⟩⟩
  have p3 : (page ≥ c.p) = False := eq_false hp1
  by_cases hc0 : cl < 0
  · have p4 : (cl < 0) = True := eq_true hc0
    rw [show loadE c f at_ page cl u = 2 from if_pos (.inr (.inr (.inr (.inr (.inl hc0)))))]
    have tE := aI uU <| aI eb <| aI hrow <| aI b6 <| aI w0 <| aI b0 <| aI k1 <| aI p1 <| aI p2 <| aI p3 <| aI p4 <| aI Cf.cells.eq_1 <| aI Fs.cells.eq_1 <| aI Nat.add_zero <| tfG40.down; repeat' first | (refine Red.h ?_) | ((with_reducible first | apply wz tkG4 | apply wr_z tkG4); exact zZ; decide) | ((with_reducible first | apply wzg tkG4 | apply wr_zg tkG4); exact zU; exact zL; exact zU; exact zZ; decide) | ((with_reducible first | apply wskip' | apply wr_skip); exact zU; exact zL; exact zU; decide) | ((with_reducible first | apply wcall' | apply wr_call); exact zV; exact zVs; exact zAs; (focus (with_unfolding_all first | exact h58)); decide) | ((with_reducible first | apply wacallg'); exact zU; exact zL; exact zU; exact zV; exact zVs; exact zAs; (focus (first | exact ⟨_, Tryz.func122, rfl, rfl⟩)); (focus (with_unfolding_all first | exact hl49)); decide) | ((with_reducible first | apply w_ift'); exact zV; exact zU) | ((with_reducible apply w_ret); (repeat refine Red.h ?_); (with_reducible first | apply donef_ret tkG4 | apply doneA_ret tkG4); exact zT; exact zD) | fail
    all_goals try clear tE
    exact ⟨rfl, .inl ⟨by decide, rfl⟩⟩
  have p4 : (cl < 0) = False := eq_false hc0
  by_cases hc1 : cl ≥ c.cl
  · have p5 : (cl ≥ c.cl) = True := eq_true hc1
    rw [show loadE c f at_ page cl u = 2 from if_pos (.inr (.inr (.inr (.inr (.inr (.inl hc1))))))]
    have tE := aI uU <| aI eb <| aI hrow <| aI b6 <| aI w0 <| aI b0 <| aI k1 <| aI p1 <| aI p2 <| aI p3 <| aI p4 <| aI p5 <| aI Cf.cells.eq_1 <| aI Fs.cells.eq_1 <| aI Nat.add_zero <| tfG40.down; repeat' first | (refine Red.h ?_) | ((with_reducible first | apply wz tkG4 | apply wr_z tkG4); exact zZ; decide) | ((with_reducible first | apply wzg tkG4 | apply wr_zg tkG4); exact zU; exact zL; exact zU; exact zZ; decide) | ((with_reducible first | apply wskip' | apply wr_skip); exact zU; exact zL; exact zU; decide) | ((with_reducible first | apply wcall' | apply wr_call); exact zV; exact zVs; exact zAs; (focus (with_unfolding_all first | exact h58)); decide) | ((with_reducible first | apply wacallg'); exact zU; exact zL; exact zU; exact zV; exact zVs; exact zAs; (focus (first | exact ⟨_, Tryz.func122, rfl, rfl⟩)); (focus (with_unfolding_all first | exact hl49)); decide) | ((with_reducible first | apply w_ift'); exact zV; exact zU) | ((with_reducible apply w_ret); (repeat refine Red.h ?_); (with_reducible first | apply donef_ret tkG4 | apply doneA_ret tkG4); exact zT; exact zD) | fail
    all_goals try clear tE
    exact ⟨rfl, .inl ⟨by decide, rfl⟩⟩
  have p5 : (cl ≥ c.cl) = False := eq_false hc1
  by_cases htt : fidx (isAt page) f.l 0 ≥ 0 ∧ fidx (isAt page) f.l 0 ≠ at_
  · have p6 : (fidx (isAt page) f.l 0 ≥ 0) = True := eq_true htt.1
    have p7 : (fidx (isAt page) f.l 0 != (at_ : Int)) = true := by simpa using htt.2
    rw [show loadE c f at_ page cl u = 2 from if_pos (.inr (.inr (.inr (.inr (.inr (.inr htt))))))]
    have tE := aI uU <| aI eb <| aI hrow <| aI b6 <| aI w0 <| aI b0 <| aI k1 <| aI p1 <| aI p2 <| aI p3 <| aI p4 <| aI p5 <| aI p6 <| aI p7 <| aI Cf.cells.eq_1 <| aI Fs.cells.eq_1 <| aI Nat.add_zero <| tfG40.down; repeat' first | (refine Red.h ?_) | ((with_reducible first | apply wz tkG4 | apply wr_z tkG4); exact zZ; decide) | ((with_reducible first | apply wzg tkG4 | apply wr_zg tkG4); exact zU; exact zL; exact zU; exact zZ; decide) | ((with_reducible first | apply wcall' | apply wr_call); exact zV; exact zVs; exact zAs; (focus (with_unfolding_all first | exact h58)); decide) | ((with_reducible first | apply wacallg'); exact zU; exact zL; exact zU; exact zV; exact zVs; exact zAs; (focus (first | exact ⟨_, Tryz.func122, rfl, rfl⟩)); (focus (with_unfolding_all first | exact hl49)); decide) | ((with_reducible first | apply w_ift'); exact zV; exact zU) | ((with_reducible apply w_ret); (repeat refine Red.h ?_); (with_reducible first | apply donef_ret tkG4 | apply doneA_ret tkG4); exact zT; exact zD) | fail
    all_goals try clear tE
    exact ⟨rfl, .inl ⟨by decide, rfl⟩⟩
  rw [show loadE c f at_ page cl u = 0 from if_neg (by rintro (h | h | h | h | h | h | h); exact hk h; exact hpin h; exact hp0 h; exact hp1 h; exact hc0 h; exact hc1 h; exact htt h)]
  obtain ⟨kc, hkc⟩ : ∃ kc : Nat, c.cl = kc := ⟨c.cl.toNat, by omega⟩
  obtain ⟨k, rfl⟩ : ∃ k : Nat, cl = k := ⟨cl.toNat, by omega⟩
  have hkl : k < kc := by omega
  have p5' : ((k : Int) ≥ (kc : Int)) = False := eq_false (by omega)
  have hpos : (0 ≤ (k : Int)) = True := by simp
  have hkl' : ((k : Int) < (kc : Int)) = True := by simp; exact hkl
  have qb : (b == n) = false := by rw [beq_eq_false_iff_ne]; omega
  have qn : (n == b) = false := by rw [beq_eq_false_iff_ne]; omega
  have bb6 : (at_ * 6 + 6 ≤ (oRows f.l m).flatten.length) = True := by rw [hfl]; simp; omega
  have hset : ((((((oRows f.l m).flatten.set (at_ * 6) (AV.int .u8 1)).set (at_ * 6 + 1) (.int .i64 page)).set (at_ * 6 + 2) .empty).set (at_ * 6 + 3) (.slice n 0 kc (some kc) 1)).set (at_ * 6 + 4) (.bool true)).set (at_ * 6 + 5) (.bool false) = (oRows (f.l.set at_ ⟨1, page, [], [], true, false⟩) (m.set at_ (.empty, .slice n 0 kc (some kc) 1))).flatten := by
    have e0 := oFlat_wr (x := .int .u8 1) (u' := { u with k := 1 }) (ab' := ab) hu hab (j := 0) (by decide) rfl
    have e1 := oFlat_wr (x := .int .i64 page) (u' := { u with k := 1, p := page }) (ab' := ab) (set_at (y := { u with k := 1 }) hu) (set_at (y := ab) hab) (j := 1) (by decide) rfl
    rw [← e0, List.set_set, List.set_set] at e1
    have e2 := oFlat_wr (x := .empty) (u' := { u with k := 1, p := page }) (ab' := (.empty, ab.2)) (set_at (y := { u with k := 1, p := page }) hu) (set_at (y := ab) hab) (j := 2) (by decide) rfl
    rw [← e1, List.set_set, List.set_set] at e2
    have e3 := oFlat_wr (x := .slice n 0 kc (some kc) 1) (u' := { u with k := 1, p := page }) (ab' := (.empty, .slice n 0 kc (some kc) 1)) (set_at (y := { u with k := 1, p := page }) hu) (set_at (y := (.empty, ab.2)) hab) (j := 3) (by decide) rfl
    rw [← e2, List.set_set, List.set_set] at e3
    have e4 := oFlat_wr (x := .bool true) (u' := { u with k := 1, p := page, rf := true }) (ab' := (.empty, .slice n 0 kc (some kc) 1)) (set_at (y := { u with k := 1, p := page }) hu) (set_at (y := (.empty, .slice n 0 kc (some kc) 1)) hab) (j := 4) (by decide) rfl
    rw [← e3, List.set_set, List.set_set] at e4
    have e5 := oFlat_wr (x := .bool false) (u' := ⟨1, page, [], [], true, false⟩) (ab' := (.empty, .slice n 0 kc (some kc) 1)) (set_at (y := { u with k := 1, p := page, rf := true }) hu) (set_at (y := (.empty, .slice n 0 kc (some kc) 1)) hab) (j := 5) (by decide) rfl
    rw [← e4, List.set_set, List.set_set] at e5
    exact e5
  have w3 : ((oRows (f.l.set at_ ⟨1, page, [], [], true, false⟩) (m.set at_ (.empty, .slice n 0 kc (some kc) 1))).flatten.drop (at_ * 6 + 3))[0]? = some (.slice n 0 kc (some kc) 1) := drop_head (oFlat_at (set_at hu) (set_at hab) (j := 3) (by decide))
  have hrl : (List.replicate kc [AV.int .i64 (Int.ofNat 0)]).flatten.length = kc := by simp
  have hra : ∀ j, j < kc → (List.replicate kc [AV.int .i64 (Int.ofNat 0)]).flatten[j]? = some (.int .i64 (Int.ofNat 0)) := fun j hj => by
    have := flat_at (sz := 1) (rows := List.replicate kc [AV.int .i64 (Int.ofNat 0)]) (fun r hr => by rw [List.eq_of_mem_replicate hr]; rfl) (i := j) (j := 0) (r := [AV.int .i64 (Int.ofNat 0)]) (by rw [List.getElem?_replicate, if_pos hj]) (by decide)
    simpa using this
  have wpz : ((List.replicate kc [AV.int .i64 (Int.ofNat 0)]).flatten.drop k)[0]? = some (.int .i64 (Int.ofNat 0)) := drop_head (hra k hkl)
  have bz : (k + 1 ≤ (List.replicate kc [AV.int .i64 (Int.ofNat 0)]).flatten.length) = True := by rw [hrl]; simp; omega
  have hw1 : IntKind.i64.wrap (Int.ofNat 0 + 1) = 1 := rfl
  have hown : Own (upd H n (some (.cells ((List.replicate kc [AV.int .i64 (Int.ofNat 0)]).flatten.set k (.int .i64 1)) 3))) (fun x => x = n) (.slice n 0 kc (some kc) 1) (.view (intRows (loadV c page (k : Int) u).pins)) := by
    have hpl : (loadV c page (k : Int) u).pins.length = kc := by simp only [loadV, List.length_set, List.length_replicate, hkc, Int.toNat_natCast]
    have h := ints_mk (H := upd H n (some (.cells ((List.replicate kc [AV.int .i64 (Int.ofNat 0)]).flatten.set k (.int .i64 1)) 3))) (S := fun x => x = n) (id := n) (off := 0) (cap := some kc) (ns := (loadV c page (k : Int) u).pins) rfl (upd_same _ _ _) (by rw [hpl, List.length_set, hrl]; omega) (fun i v hv => ?_)
    · rw [hpl] at h; exact h
    · simp only [loadV, hkc, Int.toNat_natCast] at hv
      rw [List.getElem?_set] at hv
      rw [Nat.zero_add, List.getElem?_set]
      by_cases e : k = i
      · rw [if_pos e, if_pos (by simp; omega)] at hv; cases hv
        rw [if_pos e, if_pos (by rw [hrl]; omega)]
      · rw [if_neg e] at hv
        rw [if_neg e]
        have hi : i < kc := by have := (List.getElem?_eq_some_iff.1 hv).1; simpa using this
        rw [List.getElem?_replicate, if_pos hi] at hv; cases hv
        exact hra i hi
  by_cases ht0 : fidx (isAt page) f.l 0 ≥ 0
  · have p6 : (fidx (isAt page) f.l 0 ≥ 0) = True := eq_true ht0
    have p7 : (fidx (isAt page) f.l 0 != (at_ : Int)) = false := by
      have : fidx (isAt page) f.l 0 = at_ := Classical.byContradiction fun h => htt ⟨ht0, h⟩
      simp [this]
    have tE := aI uU <| aI eb <| aI hrow <| aI b6 <| aI w0 <| aI b0 <| aI k1 <| aI p1 <| aI p2 <| aI p3 <| aI p4 <| aI p5 <| aI p6 <| aI p7 <| aI Cf.cells.eq_1 <| aI Fs.cells.eq_1 <| aI Nat.add_zero <| aI hkc <| aI p5' <| aI hpos <| aI hkl' <| aI qb <| aI qn <| aI bb6 <| aI hset <| aI w3 <| aI wpz <| aI bz <| aI hw1 <| aI Nat.mul_one <| tfG40.down; repeat' first | (refine Red.h ?_) | ((with_reducible apply w_live (lvAt [[0, 1, 2, 3, 4, 5], [0, 1, 2, 3, 4, 5], [0, 1, 3, 4, 5, 9], [], [0, 1, 3, 4], [0, 1], []])); (focus (simp only [lvAt_zero, lvAt_succ]; rfl)); exact zLv) | ((with_reducible first | apply wz tkG4 | apply wr_z tkG4); exact zZ; decide) | ((with_reducible first | apply wzg tkG4 | apply wr_zg tkG4); exact zU; exact zL; exact zU; exact zZ; decide) | ((with_reducible first | apply w_store tkG4); exact zV; exact zV; exact zS) | ((with_reducible first | apply wcall' | apply wr_call); exact zV; exact zVs; exact zAs; (focus (with_unfolding_all first | exact h58)); decide) | ((with_reducible first | apply wacallg'); exact zU; exact zL; exact zU; exact zV; exact zVs; exact zAs; (focus (first | exact ⟨_, Tryz.func122, rfl, rfl⟩)); (focus (with_unfolding_all first | exact hl49)); decide) | ((with_reducible first | apply w_iff'); exact zV; exact zU) | ((with_reducible first | apply fm_nil | apply fm_cons)) | ((with_reducible apply m_next); exact zU) | ((with_reducible apply m_nil0); exact zU) | ((with_reducible first | apply m_v tkG4); exact zU; exact zZ; decide) | ((with_reducible first | apply m_xA tkG4); exact zU; exact zI; decide) | ((with_reducible first | apply m_chg); exact zU; (focus (first | ((with_reducible apply c_alloc tkG4); exact zT) | ((with_reducible apply c_mks tkG4); exact zV; exact zV; exact zT; exact zU; exact zT; exact zKo; exact zKo; exact zKo; (focus (first | exact zR | exact zU)); exact zU) | ((with_reducible apply c_ap); (focus (first | (intro _ ho _ hr _; (with_reducible apply ap_new tkG4 ho (hr := hr)); exact zT; exact zU; exact zT; exact zT; exact zU; exact zA; exact zV; exact zK; exact zM; exact zK; exact zK; decide) | (intro _ ho _ hr _; (with_reducible apply ap_own tkG4 ho (hr := hr)); exact zT; exact zU; exact zT; exact zT; exact zU; exact zV; exact zV; exact zH; exact zKo; exact zM; (focus (first | rfl | assumption)); exact zKo; exact zKo; decide)))))); decide) | ((with_reducible first | apply m_chg0); exact zU; (focus ((with_reducible apply c_store tkG4); exact zV; exact zV; exact zS))) | ((with_reducible apply w_drawN (id := 4) [4, 7] [([4, 7], [2, 3, 4, 0, 1, 5, 6, 7])] mixed); (focus (decide +kernel))) | ((with_reducible apply w_ret); (repeat refine Red.h ?_); (with_reducible first | apply donef_ret tkG4 | apply doneA_ret tkG4); exact zT; exact zD) | fail
    all_goals try clear tE
    refine ⟨rfl, .inr ⟨rfl, m.set at_ (.empty, .slice n 0 kc (some kc) 1), ?_, fun x hx hsx => ?_⟩⟩
    · have h := fro_new (H1 := upd H n (some (.cells ((List.replicate kc [AV.int .i64 (Int.ofNat 0)]).flatten.set k (.int .i64 1)) 3))) (u' := loadV c page (k : Int) u) (ab' := (.empty, .slice n 0 kc (some kc) 1)) hF hbn htop (fun id hid => upd_ne _ _ (by omega)) hu hab (.inr ⟨rfl, rfl, hown⟩)
      rw [show oRows (f.l.set at_ (loadV c page (k : Int) u)) (m.set at_ (.empty, .slice n 0 kc (some kc) 1)) = oRows (f.l.set at_ ⟨1, page, [], [], true, false⟩) (m.set at_ (.empty, .slice n 0 kc (some kc) 1)) from by
        rw [← oRows_set2 (loadV c page (k : Int) u) (.empty, .slice n 0 kc (some kc) 1) hu hab, ← oRows_set2 ⟨1, page, [], [], true, false⟩ (.empty, .slice n 0 kc (some kc) 1) hu hab]; rfl] at h
      rw [← upd_swap (X := some (.cells (List.replicate kc [AV.int .i64 (Int.ofNat 0)]).flatten 3)) (show n ≠ b by omega)] at h
      exact h
    · show upd (upd (upd H n _) b _) n _ x = _
      rw [upd_ne _ _ (by omega), upd_ne _ _ (fun e => hsx (by rw [e]; exact hSb)), upd_ne _ _ (by omega)]
  · have p6 : (fidx (isAt page) f.l 0 ≥ 0) = False := eq_false ht0
    have tE := aI uU <| aI eb <| aI hrow <| aI b6 <| aI w0 <| aI b0 <| aI k1 <| aI p1 <| aI p2 <| aI p3 <| aI p4 <| aI p5 <| aI p6 <| aI Cf.cells.eq_1 <| aI Fs.cells.eq_1 <| aI Nat.add_zero <| aI hkc <| aI p5' <| aI hpos <| aI hkl' <| aI qb <| aI qn <| aI bb6 <| aI hset <| aI w3 <| aI wpz <| aI bz <| aI hw1 <| aI Nat.mul_one <| tfG40.down; repeat' first | (refine Red.h ?_) | ((with_reducible apply w_live (lvAt [[0, 1, 2, 3, 4, 5], [0, 1, 2, 3, 4, 5], [0, 1, 3, 4, 5, 9], [], [0, 1, 3, 4], [0, 1], []])); (focus (simp only [lvAt_zero, lvAt_succ]; rfl)); exact zLv) | ((with_reducible first | apply wz tkG4 | apply wr_z tkG4); exact zZ; decide) | ((with_reducible first | apply wzg tkG4 | apply wr_zg tkG4); exact zU; exact zL; exact zU; exact zZ; decide) | ((with_reducible first | apply wskip' | apply wr_skip); exact zU; exact zL; exact zU; decide) | ((with_reducible first | apply w_store tkG4); exact zV; exact zV; exact zS) | ((with_reducible first | apply wcall' | apply wr_call); exact zV; exact zVs; exact zAs; (focus (with_unfolding_all first | exact h58)); decide) | ((with_reducible first | apply wacallg'); exact zU; exact zL; exact zU; exact zV; exact zVs; exact zAs; (focus (first | exact ⟨_, Tryz.func122, rfl, rfl⟩)); (focus (with_unfolding_all first | exact hl49)); decide) | ((with_reducible first | apply w_iff'); exact zV; exact zU) | ((with_reducible first | apply fm_nil | apply fm_cons)) | ((with_reducible apply m_next); exact zU) | ((with_reducible apply m_nil0); exact zU) | ((with_reducible first | apply m_v tkG4); exact zU; exact zZ; decide) | ((with_reducible first | apply m_xA tkG4); exact zU; exact zI; decide) | ((with_reducible first | apply m_chg); exact zU; (focus (first | ((with_reducible apply c_alloc tkG4); exact zT) | ((with_reducible apply c_mks tkG4); exact zV; exact zV; exact zT; exact zU; exact zT; exact zKo; exact zKo; exact zKo; (focus (first | exact zR | exact zU)); exact zU) | ((with_reducible apply c_ap); (focus (first | (intro _ ho _ hr _; (with_reducible apply ap_new tkG4 ho (hr := hr)); exact zT; exact zU; exact zT; exact zT; exact zU; exact zA; exact zV; exact zK; exact zM; exact zK; exact zK; decide) | (intro _ ho _ hr _; (with_reducible apply ap_own tkG4 ho (hr := hr)); exact zT; exact zU; exact zT; exact zT; exact zU; exact zV; exact zV; exact zH; exact zKo; exact zM; (focus (first | rfl | assumption)); exact zKo; exact zKo; decide)))))); decide) | ((with_reducible first | apply m_chg0); exact zU; (focus ((with_reducible apply c_store tkG4); exact zV; exact zV; exact zS))) | ((with_reducible apply w_drawN (id := 4) [4, 7] [([4, 7], [2, 3, 4, 0, 1, 5, 6, 7])] mixed); (focus (decide +kernel))) | ((with_reducible apply w_ret); (repeat refine Red.h ?_); (with_reducible first | apply donef_ret tkG4 | apply doneA_ret tkG4); exact zT; exact zD) | fail
    all_goals try clear tE
    refine ⟨rfl, .inr ⟨rfl, m.set at_ (.empty, .slice n 0 kc (some kc) 1), ?_, fun x hx hsx => ?_⟩⟩
    · have h := fro_new (H1 := upd H n (some (.cells ((List.replicate kc [AV.int .i64 (Int.ofNat 0)]).flatten.set k (.int .i64 1)) 3))) (u' := loadV c page (k : Int) u) (ab' := (.empty, .slice n 0 kc (some kc) 1)) hF hbn htop (fun id hid => upd_ne _ _ (by omega)) hu hab (.inr ⟨rfl, rfl, hown⟩)
      rw [show oRows (f.l.set at_ (loadV c page (k : Int) u)) (m.set at_ (.empty, .slice n 0 kc (some kc) 1)) = oRows (f.l.set at_ ⟨1, page, [], [], true, false⟩) (m.set at_ (.empty, .slice n 0 kc (some kc) 1)) from by
        rw [← oRows_set2 (loadV c page (k : Int) u) (.empty, .slice n 0 kc (some kc) 1) hu hab, ← oRows_set2 ⟨1, page, [], [], true, false⟩ (.empty, .slice n 0 kc (some kc) 1) hu hab]; rfl] at h
      rw [← upd_swap (X := some (.cells (List.replicate kc [AV.int .i64 (Int.ofNat 0)]).flatten 3)) (show n ≠ b by omega)] at h
      exact h
    · show upd (upd (upd H n _) b _) n _ x = _
      rw [upd_ne _ _ (by omega), upd_ne _ _ (fun e => hsx (by rw [e]; exact hSb)), upd_ne _ _ (by omega)]
end Go.Proofs.YtlmighkbeacjnaaGreatDoor


open Go Go.Lg
set_option linter.unusedSimpArgs false
set_option linter.unusedVariables false
set_option maxHeartbeats 4000000
set_option maxRecDepth 20000
namespace Go.Proofs.YtlmighkbeacjnaaGreatDoor
theorem tkG5 : TOK Tryz.prog (tyOf Tryz.prog) := tok Tryz.prog
def tfG50 := PLift.up (aI ty3 <| aI ty4 <| aI ty5 <| aI ty23 <| aI ty24 <| aI ty26 <| aI ty28 <| aI ty72 <| aI ty74 <| Tryz.results55)
def tfG51 := PLift.up (aI ty3 <| aI ty4 <| aI ty5 <| aI ty23 <| aI ty24 <| aI ty26 <| aI ty28 <| aI ty72 <| aI ty74 <| Tryz.results61)
def tfG52 := PLift.up (aI ty3 <| aI ty4 <| aI ty5 <| aI ty23 <| aI ty24 <| aI ty26 <| aI ty28 <| aI ty72 <| aI ty74 <| Tryz.results95)
def tfG53 := PLift.up (aI ty3 <| aI ty4 <| aI ty5 <| aI ty23 <| aI ty24 <| aI ty26 <| aI ty28 <| aI ty72 <| aI ty74 <| Tryz.results100)
def tfG54 := PLift.up (aI ty3 <| aI ty4 <| aI ty5 <| aI ty23 <| aI ty24 <| aI ty26 <| aI ty28 <| aI ty72 <| aI ty74 <| Tryz.results62)
def tfG55 := PLift.up (aI ty3 <| aI ty4 <| aI ty5 <| aI ty23 <| aI ty24 <| aI ty26 <| aI ty28 <| aI ty72 <| aI ty74 <| Tryz.results102)
theorem may_pins {c : Cf} {u : Fr} (h : mayF c u = true) : (u.pins.length : Int) = c.cl ∧ wildP u = false := by
  simp only [mayF, Bool.and_eq_true, decide_eq_true_eq, Bool.not_eq_true'] at h
  exact h.1
theorem good_cl {c : Cf} (h : c.good = true) : (1 ≤ c.cl ∧ c.cl ≤ 4) ∧ (1 ≤ c.z ∧ c.z ≤ 32) ∧ (1 ≤ c.p ∧ c.p ≤ 64) := by
  simp [Cf.good, Cf.ok, Cf.spans, inB] at h
  omega
def fillE (c : Cf) (data : List UInt8) (u : Fr) : Int := if u.k = 1 ∧ (data.length : Int) = c.z then 0 else 2
def fillV (data : List UInt8) (u : Fr) : Fr := { u with k := 2, d := data }
def writeE (c : Cf) (data : List UInt8) (u : Fr) : Int := if u.k = 2 ∧ (data.length : Int) = c.z then 0 else 2
def writeV (data : List UInt8) (u : Fr) : Fr := { u with d := data, rf := true, dt := true }
def cleanE (u : Fr) : Int := if u.dt = true then 0 else 2
def cleanV (u : Fr) : Fr := { u with dt := false }
theorem nf55 (c : Cf) (f : Fs) (at_ : Int) (data : List UInt8) (hl : f.l.length ≤ 1000000) (hd : ∀ x, x ∈ f.l → x.d.length ≤ 1000000 ∧ x.pins.length ≤ 1000000) (hdl : data.length ≤ 1000000) : NF Tryz.prog 55 [.agg c.cells, .agg f.cells, .int .i64 at_, .view (byteRows data)] (fun r => r = .tuple [.agg (turnF c f at_ (fillE c data) (fillV data)).cells, .int .i64 (turnE c f at_ (fillE c data))]) := by
  have hcall := nf90 c f at_ (.view (byteRows data)) 91 [.vptr c.cells] (fillE c data) (fillV data) hl hd (byteRows_pur data) (by
    intro x hx
    simp only [List.mem_cons, List.not_mem_nil, or_false] at hx
    subst hx; exact .vptr (cells_pur c)) ⟨_, Tryz.func91, rfl, rfl⟩ (fun hok a u hat hu => do91 c data hdl hu)
  generalize turnF c f at_ (fillE c data) (fillV data) = FF at hcall ⊢
  generalize turnE c f at_ (fillE c data) = EE at hcall ⊢
  refine nf_of_w0 Tryz.func55 (c := _) rfl rfl (Nat.le_of_ble_eq_true rfl) (by
    intro x hx
    simp only [List.mem_cons, List.not_mem_nil, or_false] at hx
    rcases hx with rfl | rfl | rfl | rfl
    · exact cf_pur c
    · exact fsa_pur f
    · exact .int _ _
    · exact byteRows_pur data) ?_
  rw [show Tryz.f55.ntmps = 18 from rfl]
  have hfp : ∀ x, x ∈ f.cells → Pur x := fs_pur f
  have tE := aI uU <| aI Cf.cells.eq_1 <| aI Fs.cells.eq_1 <| tfG50.down; repeat' first | (refine Red.h ?_) | ((with_reducible first | apply wz tkG5 | apply wr_z tkG5); exact zZ; decide) | ((with_reducible first | apply w_alloc tkG5); exact zT; decide) | fail
  all_goals try clear tE
  (have tE := aI uU <| aI Cf.cells.eq_1 <| Fs.cells.eq_1; (with_reducible apply wacall); exact zV; exact zVs; exact zAs; exact ⟨_, Tryz.func90, rfl, rfl⟩; (focus (with_unfolding_all exact hcall.ac _ _)); decide; clear tE)
  rintro r H' n' ⟨hn', hold, htop, x, y, rfl, hown, rfl⟩
  obtain ⟨xs, rfl, hxs⟩ := hown.tuple_inv
  obtain ⟨x1, r1, rfl, ho1, hr1⟩ := hxs.cons_inv
  obtain ⟨x2, r2, rfl, ho2, hr2⟩ := hr1.cons_inv
  obtain rfl := hr2.nil_inv
  obtain rfl := ho2.int_inv
  obtain ⟨ys, rfl, hys⟩ := ho1.agg_inv
  obtain ⟨y1, s1, rfl, hy1, hs1⟩ := hys.cons_inv
  obtain ⟨y2, s2, rfl, hy2, hs2⟩ := hs1.cons_inv
  obtain rfl := hs2.nil_inv
  obtain rfl := hy2.int_inv
  have e0 := hold 0 _ rfl
  rcases own_shape hy1 with rfl | ⟨_, _, _, _, _, rfl⟩
  all_goals
    have tE := aI uU <| aI e0 <| tfG50.down; repeat' first | (refine Red.h ?_) | ((with_reducible first | apply wz tkG5 | apply wr_z tkG5); exact zZ; decide) | ((with_reducible first | apply w_store tkG5); exact zV; exact zV; exact zS) | ((with_reducible apply w_ret); (repeat refine Red.h ?_); (with_reducible first | apply donef_ret tkG5 | apply doneA_ret tkG5); exact zT; exact zD) | fail
    all_goals try clear tE
    refine ⟨_, _, rfl, OwnL.tuple (.cons (OwnL.agg (.cons (hy1.mv (fun id c hid hc => ⟨trivial, ?_⟩)) (.cons (.int _ _) .nil))) (.cons (.int _ _) .nil)), rfl⟩
    have hid : 1 ≤ id := hid
    rw [upd_ne _ _ (by omega)]; exact hc
theorem nf61 (c : Cf) (f : Fs) (at_ : Int) (data : List UInt8) (hl : f.l.length ≤ 1000000) (hd : ∀ x, x ∈ f.l → x.d.length ≤ 1000000 ∧ x.pins.length ≤ 1000000) (hdl : data.length ≤ 1000000) : NF Tryz.prog 61 [.agg c.cells, .agg f.cells, .int .i64 at_, .view (byteRows data)] (fun r => r = .tuple [.agg (turnF c f at_ (writeE c data) (writeV data)).cells, .int .i64 (turnE c f at_ (writeE c data))]) := by
  have hcall := nf90 c f at_ (.view (byteRows data)) 104 [.vptr c.cells] (writeE c data) (writeV data) hl hd (byteRows_pur data) (by
    intro x hx
    simp only [List.mem_cons, List.not_mem_nil, or_false] at hx
    subst hx; exact .vptr (cells_pur c)) ⟨_, Tryz.func104, rfl, rfl⟩ (fun hok a u hat hu => do104 c data hdl hu)
  generalize turnF c f at_ (writeE c data) (writeV data) = FF at hcall ⊢
  generalize turnE c f at_ (writeE c data) = EE at hcall ⊢
  refine nf_of_w0 Tryz.func61 (c := _) rfl rfl (Nat.le_of_ble_eq_true rfl) (by
    intro x hx
    simp only [List.mem_cons, List.not_mem_nil, or_false] at hx
    rcases hx with rfl | rfl | rfl | rfl
    · exact cf_pur c
    · exact fsa_pur f
    · exact .int _ _
    · exact byteRows_pur data) ?_
  rw [show Tryz.f61.ntmps = 18 from rfl]
  have hfp : ∀ x, x ∈ f.cells → Pur x := fs_pur f
  have tE := aI uU <| aI Cf.cells.eq_1 <| aI Fs.cells.eq_1 <| tfG51.down; repeat' first | (refine Red.h ?_) | ((with_reducible first | apply wz tkG5 | apply wr_z tkG5); exact zZ; decide) | ((with_reducible first | apply w_alloc tkG5); exact zT; decide) | fail
  all_goals try clear tE
  (have tE := aI uU <| aI Cf.cells.eq_1 <| Fs.cells.eq_1; (with_reducible apply wacall); exact zV; exact zVs; exact zAs; exact ⟨_, Tryz.func90, rfl, rfl⟩; (focus (with_unfolding_all exact hcall.ac _ _)); decide; clear tE)
  rintro r H' n' ⟨hn', hold, htop, x, y, rfl, hown, rfl⟩
  obtain ⟨xs, rfl, hxs⟩ := hown.tuple_inv
  obtain ⟨x1, r1, rfl, ho1, hr1⟩ := hxs.cons_inv
  obtain ⟨x2, r2, rfl, ho2, hr2⟩ := hr1.cons_inv
  obtain rfl := hr2.nil_inv
  obtain rfl := ho2.int_inv
  obtain ⟨ys, rfl, hys⟩ := ho1.agg_inv
  obtain ⟨y1, s1, rfl, hy1, hs1⟩ := hys.cons_inv
  obtain ⟨y2, s2, rfl, hy2, hs2⟩ := hs1.cons_inv
  obtain rfl := hs2.nil_inv
  obtain rfl := hy2.int_inv
  have e0 := hold 0 _ rfl
  rcases own_shape hy1 with rfl | ⟨_, _, _, _, _, rfl⟩
  all_goals
    have tE := aI uU <| aI e0 <| tfG51.down; repeat' first | (refine Red.h ?_) | ((with_reducible first | apply wz tkG5 | apply wr_z tkG5); exact zZ; decide) | ((with_reducible first | apply w_store tkG5); exact zV; exact zV; exact zS) | ((with_reducible apply w_ret); (repeat refine Red.h ?_); (with_reducible first | apply donef_ret tkG5 | apply doneA_ret tkG5); exact zT; exact zD) | fail
    all_goals try clear tE
    refine ⟨_, _, rfl, OwnL.tuple (.cons (OwnL.agg (.cons (hy1.mv (fun id c hid hc => ⟨trivial, ?_⟩)) (.cons (.int _ _) .nil))) (.cons (.int _ _) .nil)), rfl⟩
    have hid : 1 ≤ id := hid
    rw [upd_ne _ _ (by omega)]; exact hc
theorem nf95 (c : Cf) (f : Fs) (at_ : Int) (hl : f.l.length ≤ 1000000) (hd : ∀ x, x ∈ f.l → x.d.length ≤ 1000000 ∧ x.pins.length ≤ 1000000) : NF Tryz.prog 95 [.agg c.cells, .agg f.cells, .int .i64 at_] (fun r => r = .tuple [.agg (turnF c f at_ (cleanE) (cleanV)).cells, .int .i64 (turnE c f at_ (cleanE))]) := by
  have hcall := nf105 c f at_ (.int .i64 0) 134 [] (cleanE) (cleanV) hl hd (.int _ _) (fun x hx => by cases hx) ⟨_, Tryz.func134, rfl, rfl⟩ (fun hok a u hat hu => do134 0 hu)
  generalize turnF c f at_ (cleanE) (cleanV) = FF at hcall ⊢
  generalize turnE c f at_ (cleanE) = EE at hcall ⊢
  refine nf_of_w0 Tryz.func95 (c := _) rfl rfl (Nat.le_of_ble_eq_true rfl) (by
    intro x hx
    simp only [List.mem_cons, List.not_mem_nil, or_false] at hx
    rcases hx with rfl | rfl | rfl
    · exact cf_pur c
    · exact fsa_pur f
    · exact .int _ _) ?_
  rw [show Tryz.f95.ntmps = 14 from rfl]
  have hfp : ∀ x, x ∈ f.cells → Pur x := fs_pur f
  have tE := aI uU <| aI Cf.cells.eq_1 <| aI Fs.cells.eq_1 <| tfG52.down; repeat' first | (refine Red.h ?_) | ((with_reducible first | apply wz tkG5 | apply wr_z tkG5); exact zZ; decide) | ((with_reducible first | apply w_alloc tkG5); exact zT; decide) | fail
  all_goals try clear tE
  (have tE := aI uU <| aI Cf.cells.eq_1 <| Fs.cells.eq_1; (with_reducible apply wacall); exact zV; exact zVs; exact zAs; exact ⟨_, Tryz.func105, rfl, rfl⟩; (focus (with_unfolding_all exact hcall.ac _ _)); decide; clear tE)
  rintro r H' n' ⟨hn', hold, htop, x, y, rfl, hown, rfl⟩
  obtain ⟨xs, rfl, hxs⟩ := hown.tuple_inv
  obtain ⟨x1, r1, rfl, ho1, hr1⟩ := hxs.cons_inv
  obtain ⟨x2, r2, rfl, ho2, hr2⟩ := hr1.cons_inv
  obtain rfl := hr2.nil_inv
  obtain rfl := ho2.int_inv
  obtain ⟨ys, rfl, hys⟩ := ho1.agg_inv
  obtain ⟨y1, s1, rfl, hy1, hs1⟩ := hys.cons_inv
  obtain ⟨y2, s2, rfl, hy2, hs2⟩ := hs1.cons_inv
  obtain rfl := hs2.nil_inv
  obtain rfl := hy2.int_inv
  have e0 := hold 0 _ rfl
  rcases own_shape hy1 with rfl | ⟨_, _, _, _, _, rfl⟩
  all_goals
    have tE := aI uU <| aI e0 <| tfG52.down; repeat' first | (refine Red.h ?_) | ((with_reducible first | apply wz tkG5 | apply wr_z tkG5); exact zZ; decide) | ((with_reducible first | apply w_store tkG5); exact zV; exact zV; exact zS) | ((with_reducible apply w_ret); (repeat refine Red.h ?_); (with_reducible first | apply donef_ret tkG5 | apply doneA_ret tkG5); exact zT; exact zD) | fail
    all_goals try clear tE
    refine ⟨_, _, rfl, OwnL.tuple (.cons (OwnL.agg (.cons (hy1.mv (fun id c hid hc => ⟨trivial, ?_⟩)) (.cons (.int _ _) .nil))) (.cons (.int _ _) .nil)), rfl⟩
    have hid : 1 ≤ id := hid
    rw [upd_ne _ _ (by omega)]; exact hc
theorem nf100 (c : Cf) (f : Fs) (at_ cl : Int) (hl : f.l.length ≤ 1000000) (hd : ∀ x, x ∈ f.l → x.d.length ≤ 1000000 ∧ x.pins.length ≤ 1000000) : NF Tryz.prog 100 [.agg c.cells, .agg f.cells, .int .i64 at_, .int .i64 cl] (fun r => r = .tuple [.agg (turnF c f at_ (fun u => pinE c u cl) (fun u => pinV u cl)).cells, .int .i64 (turnE c f at_ (fun u => pinE c u cl))]) := by
  have hcall := nf105 c f at_ (.int .i64 cl) 137 [.vptr c.cells] (fun u => pinE c u cl) (fun u => pinV u cl) hl hd (.int _ _) (by
    intro x hx
    simp only [List.mem_cons, List.not_mem_nil, or_false] at hx
    subst hx; exact .vptr (cells_pur c)) ⟨_, Tryz.func137, rfl, rfl⟩ (fun hok a u hat hu => by subst hat; have h := okF_parts hok; have hm := may_pins (okL_may h.2.2.2.2 u (List.mem_of_getElem? hu)); exact do137 c cl hu hm.1 hm.2 (hd u (List.mem_of_getElem? hu)).2)
  generalize turnF c f at_ (fun u => pinE c u cl) (fun u => pinV u cl) = FF at hcall ⊢
  generalize turnE c f at_ (fun u => pinE c u cl) = EE at hcall ⊢
  refine nf_of_w0 Tryz.func100 (c := _) rfl rfl (Nat.le_of_ble_eq_true rfl) (by
    intro x hx
    simp only [List.mem_cons, List.not_mem_nil, or_false] at hx
    rcases hx with rfl | rfl | rfl | rfl
    · exact cf_pur c
    · exact fsa_pur f
    · exact .int _ _
    · exact .int _ _) ?_
  rw [show Tryz.f100.ntmps = 18 from rfl]
  have hfp : ∀ x, x ∈ f.cells → Pur x := fs_pur f
  have tE := aI uU <| aI Cf.cells.eq_1 <| aI Fs.cells.eq_1 <| tfG53.down; repeat' first | (refine Red.h ?_) | ((with_reducible first | apply wz tkG5 | apply wr_z tkG5); exact zZ; decide) | ((with_reducible first | apply w_alloc tkG5); exact zT; decide) | fail
  all_goals try clear tE
  (have tE := aI uU <| aI Cf.cells.eq_1 <| Fs.cells.eq_1; (with_reducible apply wacall); exact zV; exact zVs; exact zAs; exact ⟨_, Tryz.func105, rfl, rfl⟩; (focus (with_unfolding_all exact hcall.ac _ _)); decide; clear tE)
  rintro r H' n' ⟨hn', hold, htop, x, y, rfl, hown, rfl⟩
  obtain ⟨xs, rfl, hxs⟩ := hown.tuple_inv
  obtain ⟨x1, r1, rfl, ho1, hr1⟩ := hxs.cons_inv
  obtain ⟨x2, r2, rfl, ho2, hr2⟩ := hr1.cons_inv
  obtain rfl := hr2.nil_inv
  obtain rfl := ho2.int_inv
  obtain ⟨ys, rfl, hys⟩ := ho1.agg_inv
  obtain ⟨y1, s1, rfl, hy1, hs1⟩ := hys.cons_inv
  obtain ⟨y2, s2, rfl, hy2, hs2⟩ := hs1.cons_inv
  obtain rfl := hs2.nil_inv
  obtain rfl := hy2.int_inv
  have e0 := hold 0 _ rfl
  rcases own_shape hy1 with rfl | ⟨_, _, _, _, _, rfl⟩
  all_goals
    have tE := aI uU <| aI e0 <| tfG53.down; repeat' first | (refine Red.h ?_) | ((with_reducible first | apply wz tkG5 | apply wr_z tkG5); exact zZ; decide) | ((with_reducible first | apply w_store tkG5); exact zV; exact zV; exact zS) | ((with_reducible apply w_ret); (repeat refine Red.h ?_); (with_reducible first | apply donef_ret tkG5 | apply doneA_ret tkG5); exact zT; exact zD) | fail
    all_goals try clear tE
    refine ⟨_, _, rfl, OwnL.tuple (.cons (OwnL.agg (.cons (hy1.mv (fun id c hid hc => ⟨trivial, ?_⟩)) (.cons (.int _ _) .nil))) (.cons (.int _ _) .nil)), rfl⟩
    have hid : 1 ≤ id := hid
    rw [upd_ne _ _ (by omega)]; exact hc
theorem nf62 (c : Cf) (f : Fs) (at_ cl : Int) (hl : f.l.length ≤ 1000000) (hd : ∀ x, x ∈ f.l → x.d.length ≤ 1000000 ∧ x.pins.length ≤ 1000000) : NF Tryz.prog 62 [.agg c.cells, .agg f.cells, .int .i64 at_, .int .i64 cl] (fun r => r = .tuple [.agg (turnF c f at_ (fun u => unpinE c u cl) (fun u => unpinV u cl)).cells, .int .i64 (turnE c f at_ (fun u => unpinE c u cl))]) := by
  have hcall := nf105 c f at_ (.int .i64 cl) 106 [.vptr c.cells] (fun u => unpinE c u cl) (fun u => unpinV u cl) hl hd (.int _ _) (by
    intro x hx
    simp only [List.mem_cons, List.not_mem_nil, or_false] at hx
    subst hx; exact .vptr (cells_pur c)) ⟨_, Tryz.func106, rfl, rfl⟩ (fun hok a u hat hu => by subst hat; have h := okF_parts hok; have hm := may_pins (okL_may h.2.2.2.2 u (List.mem_of_getElem? hu)); exact do106 c cl hu hm.1 hm.2 (hd u (List.mem_of_getElem? hu)).2)
  generalize turnF c f at_ (fun u => unpinE c u cl) (fun u => unpinV u cl) = FF at hcall ⊢
  generalize turnE c f at_ (fun u => unpinE c u cl) = EE at hcall ⊢
  refine nf_of_w0 Tryz.func62 (c := _) rfl rfl (Nat.le_of_ble_eq_true rfl) (by
    intro x hx
    simp only [List.mem_cons, List.not_mem_nil, or_false] at hx
    rcases hx with rfl | rfl | rfl | rfl
    · exact cf_pur c
    · exact fsa_pur f
    · exact .int _ _
    · exact .int _ _) ?_
  rw [show Tryz.f62.ntmps = 18 from rfl]
  have hfp : ∀ x, x ∈ f.cells → Pur x := fs_pur f
  have tE := aI uU <| aI Cf.cells.eq_1 <| aI Fs.cells.eq_1 <| tfG54.down; repeat' first | (refine Red.h ?_) | ((with_reducible first | apply wz tkG5 | apply wr_z tkG5); exact zZ; decide) | ((with_reducible first | apply w_alloc tkG5); exact zT; decide) | fail
  all_goals try clear tE
  (have tE := aI uU <| aI Cf.cells.eq_1 <| Fs.cells.eq_1; (with_reducible apply wacall); exact zV; exact zVs; exact zAs; exact ⟨_, Tryz.func105, rfl, rfl⟩; (focus (with_unfolding_all exact hcall.ac _ _)); decide; clear tE)
  rintro r H' n' ⟨hn', hold, htop, x, y, rfl, hown, rfl⟩
  obtain ⟨xs, rfl, hxs⟩ := hown.tuple_inv
  obtain ⟨x1, r1, rfl, ho1, hr1⟩ := hxs.cons_inv
  obtain ⟨x2, r2, rfl, ho2, hr2⟩ := hr1.cons_inv
  obtain rfl := hr2.nil_inv
  obtain rfl := ho2.int_inv
  obtain ⟨ys, rfl, hys⟩ := ho1.agg_inv
  obtain ⟨y1, s1, rfl, hy1, hs1⟩ := hys.cons_inv
  obtain ⟨y2, s2, rfl, hy2, hs2⟩ := hs1.cons_inv
  obtain rfl := hs2.nil_inv
  obtain rfl := hy2.int_inv
  have e0 := hold 0 _ rfl
  rcases own_shape hy1 with rfl | ⟨_, _, _, _, _, rfl⟩
  all_goals
    have tE := aI uU <| aI e0 <| tfG54.down; repeat' first | (refine Red.h ?_) | ((with_reducible first | apply wz tkG5 | apply wr_z tkG5); exact zZ; decide) | ((with_reducible first | apply w_store tkG5); exact zV; exact zV; exact zS) | ((with_reducible apply w_ret); (repeat refine Red.h ?_); (with_reducible first | apply donef_ret tkG5 | apply doneA_ret tkG5); exact zT; exact zD) | fail
    all_goals try clear tE
    refine ⟨_, _, rfl, OwnL.tuple (.cons (OwnL.agg (.cons (hy1.mv (fun id c hid hc => ⟨trivial, ?_⟩)) (.cons (.int _ _) .nil))) (.cons (.int _ _) .nil)), rfl⟩
    have hid : 1 ≤ id := hid
    rw [upd_ne _ _ (by omega)]; exact hc
theorem nf102 (c : Cf) (f : Fs) (at_ page cl : Int) (hl : f.l.length ≤ 1000000) (hd : ∀ x, x ∈ f.l → x.d.length ≤ 1000000 ∧ x.pins.length ≤ 1000000) : NF Tryz.prog 102 [.agg c.cells, .agg f.cells, .int .i64 at_, .int .i64 page, .int .i64 cl] (fun r => r = .tuple [.agg (turnF c f at_ (fun u => loadE c f at_ page cl u) (fun u => loadV c page cl u)).cells, .int .i64 (turnE c f at_ (fun u => loadE c f at_ page cl u))]) := by
  have hcall := nf105 c f at_ (.int .i64 cl) 139 [.vptr f.cells, .vptr [.int .i64 page], .vptr c.cells, .vptr [.int .i64 at_]] (fun u => loadE c f at_ page cl u) (fun u => loadV c page cl u) hl hd (.int _ _) (by
    intro x hx
    simp only [List.mem_cons, List.not_mem_nil, or_false] at hx
    rcases hx with rfl | rfl | rfl | rfl
    · exact .vptr (fs_pur f)
    · exact .vptr (args_1 (.int _ _))
    · exact .vptr (cells_pur c)
    · exact .vptr (args_1 (.int _ _))) ⟨_, Tryz.func139, rfl, rfl⟩ (fun hok a u hat hu => by subst hat; have h := okF_parts hok; have hg := good_cl h.1; exact do139 c f page cl hl (hd u (List.mem_of_getElem? hu)).2 ⟨by omega, by omega⟩ hu)
  generalize turnF c f at_ (fun u => loadE c f at_ page cl u) (fun u => loadV c page cl u) = FF at hcall ⊢
  generalize turnE c f at_ (fun u => loadE c f at_ page cl u) = EE at hcall ⊢
  refine nf_of_w0 Tryz.func102 (c := _) rfl rfl (Nat.le_of_ble_eq_true rfl) (by
    intro x hx
    simp only [List.mem_cons, List.not_mem_nil, or_false] at hx
    rcases hx with rfl | rfl | rfl | rfl | rfl
    · exact cf_pur c
    · exact fsa_pur f
    · exact .int _ _
    · exact .int _ _
    · exact .int _ _) ?_
  rw [show Tryz.f102.ntmps = 20 from rfl]
  have hfp : ∀ x, x ∈ f.cells → Pur x := fs_pur f
  have tE := aI uU <| aI Cf.cells.eq_1 <| aI Fs.cells.eq_1 <| tfG55.down; repeat' first | (refine Red.h ?_) | ((with_reducible first | apply wz tkG5 | apply wr_z tkG5); exact zZ; decide) | ((with_reducible first | apply w_alloc tkG5); exact zT; decide) | fail
  all_goals try clear tE
  (have tE := aI uU <| aI Cf.cells.eq_1 <| Fs.cells.eq_1; (with_reducible apply wacall); exact zV; exact zVs; exact zAs; exact ⟨_, Tryz.func105, rfl, rfl⟩; (focus (with_unfolding_all exact hcall.ac _ _)); decide; clear tE)
  rintro r H' n' ⟨hn', hold, htop, x, y, rfl, hown, rfl⟩
  obtain ⟨xs, rfl, hxs⟩ := hown.tuple_inv
  obtain ⟨x1, r1, rfl, ho1, hr1⟩ := hxs.cons_inv
  obtain ⟨x2, r2, rfl, ho2, hr2⟩ := hr1.cons_inv
  obtain rfl := hr2.nil_inv
  obtain rfl := ho2.int_inv
  obtain ⟨ys, rfl, hys⟩ := ho1.agg_inv
  obtain ⟨y1, s1, rfl, hy1, hs1⟩ := hys.cons_inv
  obtain ⟨y2, s2, rfl, hy2, hs2⟩ := hs1.cons_inv
  obtain rfl := hs2.nil_inv
  obtain rfl := hy2.int_inv
  have e0 := hold 0 _ rfl
  rcases own_shape hy1 with rfl | ⟨_, _, _, _, _, rfl⟩
  all_goals
    have tE := aI uU <| aI e0 <| tfG55.down; repeat' first | (refine Red.h ?_) | ((with_reducible first | apply wz tkG5 | apply wr_z tkG5); exact zZ; decide) | ((with_reducible first | apply w_store tkG5); exact zV; exact zV; exact zS) | ((with_reducible apply w_ret); (repeat refine Red.h ?_); (with_reducible first | apply donef_ret tkG5 | apply doneA_ret tkG5); exact zT; exact zD) | fail
    all_goals try clear tE
    refine ⟨_, _, rfl, OwnL.tuple (.cons (OwnL.agg (.cons (hy1.mv (fun id c hid hc => ⟨trivial, ?_⟩)) (.cons (.int _ _) .nil))) (.cons (.int _ _) .nil)), rfl⟩
    have hid : 1 ≤ id := hid
    rw [upd_ne _ _ (by omega)]; exact hc
end Go.Proofs.YtlmighkbeacjnaaGreatDoor


open Go Go.Lg
set_option linter.unusedSimpArgs false
set_option linter.unusedVariables false
set_option maxHeartbeats 4000000
set_option maxRecDepth 20000
namespace Go.Proofs.YtlmighkbeacjnaaGreatDoor
/-- No two frames hold one page. -/
def apart (l : List Fr) : Prop := ∀ (i j : Nat) x y, i < j → l[i]? = some x → l[j]? = some y → x.k ≠ 0 → y.k ≠ 0 → x.p ≠ y.p
theorem okL_iff {c : Cf} : ∀ {l : List Fr} {s : List Int}, okL c s l = true ↔ (∀ x, x ∈ l → mayF c x = true) ∧ (∀ x, x ∈ l → x.k ≠ 0 → x.p ∉ s) ∧ apart l
  | [], s => by
    refine ⟨fun _ => ⟨fun x h => (by cases h), fun x h => (by cases h), fun i j x y _ h => by simp at h⟩, fun _ => rfl⟩
  | x :: l, s => by
    simp only [okL, Bool.and_eq_true]
    by_cases hk : x.k = 0
    · have hk' : (x.k == 0) = true := by simpa using hk
      rw [hk', cond_true, okL_iff (l := l) (s := s)]
      constructor
      · rintro ⟨h1, h2, h3, h4⟩
        refine ⟨fun y hy => ?_, fun y hy hn => ?_, fun i j u v hij hu hv hku hkv => ?_⟩
        · rcases List.mem_cons.1 hy with rfl | hy
          · exact h1
          · exact h2 y hy
        · rcases List.mem_cons.1 hy with rfl | hy
          · exact absurd hk hn
          · exact h3 y hy hn
        · cases j with
          | zero => omega
          | succ j =>
            cases i with
            | zero => simp at hu; subst hu; exact absurd hk hku
            | succ i => exact h4 i j u v (by omega) (by simpa using hu) (by simpa using hv) hku hkv
      · rintro ⟨h1, h2, h3⟩
        exact ⟨h1 x (by simp), fun y hy => h1 y (by simp [hy]), fun y hy => h2 y (by simp [hy]), fun i j u v hij hu hv => h3 (i + 1) (j + 1) u v (by omega) (by simpa using hu) (by simpa using hv)⟩
    · have hk' : (x.k == 0) = false := by simpa using hk
      rw [hk', cond_false]
      simp only [Bool.and_eq_true]
      rw [okL_iff (l := l) (s := s ++ [x.p])]
      constructor
      · rintro ⟨h1, h5, h2, h3, h4⟩
        have h5 : x.p ∉ s := by simpa using h5
        refine ⟨fun y hy => ?_, fun y hy hn => ?_, fun i j u v hij hu hv hku hkv => ?_⟩
        · rcases List.mem_cons.1 hy with rfl | hy
          · exact h1
          · exact h2 y hy
        · rcases List.mem_cons.1 hy with rfl | hy
          · exact h5
          · exact fun h => h3 y hy hn (by simp [h])
        · cases j with
          | zero => omega
          | succ j =>
            cases i with
            | zero =>
              simp at hu; subst hu
              intro e
              exact h3 v (List.mem_of_getElem? (by simpa using hv)) hkv (by simp [e])
            | succ i => exact h4 i j u v (by omega) (by simpa using hu) (by simpa using hv) hku hkv
      · rintro ⟨h1, h2, h3⟩
        refine ⟨h1 x (by simp), by simpa using h2 x (by simp) hk, fun y hy => h1 y (by simp [hy]), fun y hy hn h => ?_, fun i j u v hij hu hv => h3 (i + 1) (j + 1) u v (by omega) (by simpa using hu) (by simpa using hv)⟩
        rw [List.mem_append] at h
        rcases h with h | h
        · exact h2 y (by simp [hy]) hn h
        · obtain ⟨j, hj⟩ := List.mem_iff_getElem?.1 hy
          exact h3 0 (j + 1) x y (by omega) rfl (by simpa using hj) hk hn (Eq.symm (a := y.p) (b := x.p) (by simpa using h))
/-- Frames stay apart where one is turned, if its page is in no other one. -/
theorem apart_set {l : List Fr} {a : Nat} {u v : Fr} (h : apart l) (hu : l[a]? = some u) (hv : v.k ≠ 0 → ∀ (j : Nat) y, j ≠ a → l[j]? = some y → y.k ≠ 0 → y.p ≠ v.p) : apart (l.set a v) := by
  intro i j x y hij hx hy hkx hky
  rw [List.getElem?_set] at hx hy
  have hal := (List.getElem?_eq_some_iff.1 hu).1
  by_cases ei : a = i
  · subst ei
    rw [if_pos rfl, if_pos hal] at hx; cases hx
    rw [if_neg (by omega)] at hy
    exact fun e => hv hkx j y (by omega) hy hky e.symm
  · rw [if_neg ei] at hx
    by_cases ej : a = j
    · subst ej
      rw [if_pos rfl, if_pos hal] at hy; cases hy
      exact hv hky i x (by omega) hx hkx
    · rw [if_neg ej] at hy
      exact h i j x y hij hx hy hkx hky
theorem apart_same {l : List Fr} {a : Nat} {u v : Fr} (h : apart l) (hu : l[a]? = some u) (hp : v.p = u.p) (hk : v.k ≠ 0 → u.k ≠ 0) : apart (l.set a v) :=
  apart_set h hu fun hkv j y hj hy hky => by
    rw [hp]
    rcases Nat.lt_or_ge j a with h1 | h1
    · exact h j a y u h1 hy hu hky (hk hkv)
    · exact fun e => h a j u y (by omega) hu hy (hk hkv) hky e.symm
/-- What a law of frames asks of an answer. -/
structure StayP (c : Cf) (f : Fs) (at_ : Int) (F : Fs) (e : Int) : Prop where
  bad : e ≠ 0 → F.l = []
  good : e = 0 → ∃ (a : Nat) (u v : Fr), at_ = a ∧ f.l[a]? = some u ∧ F = ⟨f.l.set a v, f.h⟩ ∧ okF c F = true
theorem stay {c : Cf} {f : Fs} {at_ : Int} {E : Fr → Int} {V : Fr → Fr} (h : okF c f = true → ∀ (a : Nat) u, at_ = a → f.l[a]? = some u → mayF c u = true → E u = 0 → mayF c (V u) = true ∧ apart (f.l.set a (V u))) : StayP c f at_ (turnF c f at_ E V) (turnE c f at_ E) := by
  refine ⟨fun he => by rw [turnF, if_neg he], fun he => ?_⟩
  have he' := he
  unfold turnE at he
  split at he
  · rename_i hok
    split at he
    · cases he
    · rename_i hr
      obtain ⟨a, rfl⟩ : ∃ a : Nat, at_ = a := ⟨at_.toNat, by omega⟩
      rw [Int.toNat_natCast] at he
      split at he
      · rename_i u hu
        obtain ⟨k1, k2, k3, k4, k5⟩ := okF_parts hok
        obtain ⟨o1, o2, o3⟩ := okL_iff.1 k5
        obtain ⟨m1, m2⟩ := h hok a u rfl hu (o1 u (List.mem_of_getElem? hu)) he
        have hF : turnF c f (a : Int) E V = ⟨f.l.set a (V u), f.h⟩ := by rw [turnF, if_pos he', Int.toNat_natCast, hu]
        refine ⟨a, u, V u, rfl, hu, hF, ?_⟩
        rw [hF]
        have hokL : okL c [] (f.l.set a (V u)) = true := by
          refine okL_iff.2 ⟨fun x hx => ?_, fun x _ _ h => (by cases h), m2⟩
          rcases List.mem_or_eq_of_mem_set hx with hx | rfl
          · exact o1 x hx
          · exact m1
        simp only [okF, okS, List.length_set, k1, k2, hokL, Bool.and_true, Bool.true_and, decide_true]
        simp; omega
      · cases he
  · cases he
theorem okF_apart {c : Cf} {f : Fs} (h : okF c f = true) : apart f.l := (okL_iff.1 (okF_parts h).2.2.2.2).2.2
theorem stay_clean (c : Cf) (f : Fs) (at_ : Int) : StayP c f at_ (turnF c f at_ cleanE cleanV) (turnE c f at_ cleanE) := by
  refine stay fun hok a u hat hu hm hE => ?_
  unfold cleanE at hE
  split at hE
  · rename_i h
    by_cases k0 : u.k = 0
    · simp [mayF, k0, h] at hm
    · by_cases k1 : u.k = 1
      · simp [mayF, k1, h] at hm
      · by_cases k2 : u.k = 2
        · refine ⟨?_, apart_same (okF_apart hok) hu rfl (fun _ => k0)⟩
          simp [mayF, cleanV, wildP, pinned, k2] at hm ⊢
          simp_all
        · simp [mayF, k0, k1, k2] at hm
  · cases hE
theorem pins_wild {ns : List Int} {k : Nat} {p : Int} (h : (ns.any fun n => decide (n < 0 ∨ n > 8)) = false) (hp : 0 ≤ p ∧ p ≤ 8) : ((ns.set k p).any fun n => decide (n < 0 ∨ n > 8)) = false := by
  rw [List.any_eq_false] at h ⊢
  intro x hx
  rcases List.mem_or_eq_of_mem_set hx with hx | rfl
  · exact h x hx
  · simp; omega
theorem fidx_lt {α : Type} {P : α → Bool} : ∀ {l : List α} {i : Nat}, fidx P l i < 0 → ∀ x, x ∈ l → P x = false
  | [], _, _, x, hx => by cases hx
  | y :: l, i, h, x, hx => by
    unfold fidx at h
    split at h
    · omega
    · rename_i hy
      rcases List.mem_cons.1 hx with rfl | hx
      · simpa using hy
      · exact fidx_lt h x hx
theorem fidx_of {α : Type} {P : α → Bool} : ∀ {l : List α} {i a : Nat} {x : α}, l[a]? = some x → P x = true → (∀ (j : Nat) y, j < a → l[j]? = some y → P y = false) → fidx P l i = ((i + a : Nat) : Int)
  | [], _, a, x, h, _, _ => by simp at h
  | y :: l, i, 0, x, h, hp, _ => by
    simp at h; subst h
    rw [fidx, if_pos hp]; rfl
  | y :: l, i, a + 1, x, h, hp, hn => by
    rw [fidx, if_neg (by rw [hn 0 y (by omega) rfl]; simp), fidx_of (i := i + 1) (a := a) (by simpa using h) hp (fun j z hj hz => hn (j + 1) z (by omega) (by simpa using hz))]
    congr 1; omega
theorem fidx_get {α : Type} {P : α → Bool} : ∀ {l : List α} {i : Nat}, 0 ≤ fidx P l i → ∃ (a : Nat) (x : α), fidx P l i = ((i + a : Nat) : Int) ∧ l[a]? = some x ∧ P x = true
  | [], i, h => by simp [fidx] at h
  | y :: l, i, h => by
    unfold fidx at h ⊢
    split at h
    · rename_i hp; exact ⟨0, y, by rw [if_pos hp]; rfl, rfl, hp⟩
    · rename_i hp
      obtain ⟨a, x, h1, h2, h3⟩ := fidx_get h
      exact ⟨a + 1, x, by rw [if_neg hp, h1]; congr 1; omega, by simpa using h2, h3⟩
theorem stay_load (c : Cf) (f : Fs) (at_ page cl : Int) : StayP c f at_ (turnF c f at_ (fun u => loadE c f at_ page cl u) (fun u => loadV c page cl u)) (turnE c f at_ (fun u => loadE c f at_ page cl u)) := by
  refine stay fun hok a u hat hu hm hE => ?_
  have hE : loadE c f at_ page cl u = 0 := hE
  unfold loadE at hE
  split at hE
  · cases hE
  · rename_i h
    simp only [not_or] at h
    obtain ⟨h1, h2, h3, h4, h5, h6, h7⟩ := h
    have hg := good_cl (okF_parts hok).1
    have hk : cl.toNat < c.cl.toNat := by omega
    constructor
    · have hw : wildP (loadV c page cl u) = false := pins_wild (by rw [List.any_eq_false]; intro x hx; rw [List.eq_of_mem_replicate hx]; simp) ⟨by decide, by decide⟩
      have hp : pinned (loadV c page cl u) = true := by
        rw [pinned, List.any_eq_true]
        exact ⟨1, List.mem_of_getElem? (i := cl.toNat) (by rw [loadV, List.getElem?_set_self (by rw [List.length_replicate]; exact hk)]), by simp⟩
      have hlen : ((loadV c page cl u).pins.length : Int) = c.cl := by rw [loadV, List.length_set, List.length_replicate]; omega
      have kk : (loadV c page cl u).k = 1 := rfl
      have kp : (loadV c page cl u).p = page := rfl
      have kd : (loadV c page cl u).d = [] := rfl
      have kt : (loadV c page cl u).dt = false := rfl
      simp [mayF, kk, kp, kd, kt, hw, hp, hlen]
      omega
    · refine apart_set (okF_apart hok) hu fun _ j y hj hy hky e => ?_
      have e : y.p = page := e
      have hya : isAt page y = true := by simp [isAt, hky, e]
      rcases Int.lt_or_le (fidx (isAt page) f.l 0) 0 with hlt | hge
      · rw [fidx_lt hlt y (List.mem_of_getElem? hy)] at hya; cases hya
      · obtain ⟨b, x, b1, b2, b3⟩ := fidx_get hge
        have hba : b = a := by
          have : fidx (isAt page) f.l 0 = at_ := Classical.byContradiction fun h => h7 ⟨hge, h⟩
          omega
        subst hba
        simp only [isAt, decide_eq_true_eq] at b3
        have hap := okF_apart hok
        rcases Nat.lt_or_ge j b with h | h
        · exact hap j b y x h hy b2 hky b3.1 (by rw [e, b3.2])
        · exact hap b j x y (by omega) b2 hy b3.1 hky (by rw [e, b3.2])
/-- Behind a load that goes well, the page's frame is the one at the place. -/
theorem load_find {c : Cf} {f : Fs} {at_ page cl : Int} (h : turnE c f at_ (fun u => loadE c f at_ page cl u) = 0) : okF c (turnF c f at_ (fun u => loadE c f at_ page cl u) (fun u => loadV c page cl u)) = true ∧ fidx (isAt page) (turnF c f at_ (fun u => loadE c f at_ page cl u) (fun u => loadV c page cl u)).l 0 = at_ ∧ 0 ≤ at_ := by
  obtain ⟨a, u, v, hat, hu, hF, hok⟩ := (stay_load c f at_ page cl).good h
  refine ⟨hok, ?_, by omega⟩
  have hv : turnF c f at_ (fun u => loadE c f at_ page cl u) (fun u => loadV c page cl u) = ⟨f.l.set a (loadV c page cl u), f.h⟩ := by
    rw [turnF, if_pos h, hat, Int.toNat_natCast, hu]
  rw [hv] at hok ⊢
  have hget : (f.l.set a (loadV c page cl u))[a]? = some (loadV c page cl u) := set_at hu
  have hat' : isAt page (loadV c page cl u) = true := by simp [isAt, loadV]
  have := fidx_of (i := 0) hget hat' (fun j y hj hy => ?_)
  · rw [this, hat]; simp
  · cases hy' : isAt page y with
    | false => rfl
    | true =>
      simp only [isAt, decide_eq_true_eq] at hy'
      exact absurd hy'.2 (fun e => okF_apart hok j a y _ hj hy hget hy'.1 (show (1 : Int) ≠ 0 by decide) e)
end Go.Proofs.YtlmighkbeacjnaaGreatDoor


