/- Frames in own memory, one of which is turned. -/
import Derived.Test.YtlmighkbeacjnaaLm6
import Derived.Test.YtlmighkbeacjnaaF11
open Go Go.Lg
set_option linter.unusedSimpArgs false
set_option linter.unusedVariables false
set_option maxHeartbeats 4000000
set_option maxRecDepth 20000
namespace Go.Proofs.Ytlmighkbeacjnaa
/-- Frames whose list is the block 'b', all of ids in 'S'. -/
def FrO (H : Heap) (S : Nat → Prop) (b : Nat) (l : List Fr) (m : List (AV × AV)) : Prop := S b ∧ H b = some (.cells (oRows l m).flatten 37) ∧ OwnABz H (fun x => S x ∧ x ≠ b) l m
theorem oRows_set2 {l : List Fr} {m : List (AV × AV)} {i : Nat} {u : Fr} {ab : AV × AV} (u' : Fr) (ab' : AV × AV) (h : l[i]? = some u) (h' : m[i]? = some ab) : (oRows l m).set i (oRow u' ab') = oRows (l.set i u') (m.set i ab') := by
  refine List.ext_getElem? fun j => ?_
  have h1 := (List.getElem?_eq_some_iff.1 h).1
  have h2 := (List.getElem?_eq_some_iff.1 h').1
  rw [List.getElem?_set, oRows, oRows, List.getElem?_zipWith, List.getElem?_zipWith, List.getElem?_set, List.getElem?_set]
  by_cases e : i = j
  · subst e
    simp only [if_true, List.length_zipWith, if_pos h1, if_pos h2, if_pos (show i < min l.length m.length by omega)]
  · simp only [if_neg e]
/-- Cells of a frame in own memory, set one by one. -/
theorem oFlat_wr {l : List Fr} {m : List (AV × AV)} {i : Nat} {u : Fr} {ab : AV × AV} (h : l[i]? = some u) (h' : m[i]? = some ab) {j : Nat} (hj : j < 6) {x : AV} {u' : Fr} {ab' : AV × AV} (e : (oRow u ab).set j x = oRow u' ab') : (oRows l m).flatten.set (i * 6 + j) x = (oRows (l.set i u') (m.set i ab')).flatten := by
  rw [flat_set (oRows_row l m) x (oRows_at h h') hj, e, oRows_set2 u' ab' h h']
theorem set_at {α : Type} {l : List α} {i : Nat} {x y : α} (h : l[i]? = some x) : (l.set i y)[i]? = some y := List.getElem?_set_self (List.getElem?_eq_some_iff.1 h).1
theorem set_id {α : Type} {l : List α} {i : Nat} {x : α} (h : l[i]? = some x) : l.set i x = l := by
  refine List.ext_getElem? fun j => ?_
  rw [List.getElem?_set]
  split
  · rename_i e; subst e
    rw [if_pos (List.getElem?_eq_some_iff.1 h).1, h]
  · rfl
theorem FrO.len {H : Heap} {S : Nat → Prop} {b : Nat} {l : List Fr} {m : List (AV × AV)} (h : FrO H S b l m) : m.length = l.length := h.2.2.1
theorem FrO.mono {H : Heap} {S S' : Nat → Prop} {b : Nat} {l : List Fr} {m : List (AV × AV)} (hS : ∀ x, S x → S' x) (h : FrO H S b l m) : FrO H S' b l m := by
  obtain ⟨h1, h2, h3, g, h4⟩ := h
  exact ⟨hS _ h1, h2, h3, g, fun j u ab hu hab => ⟨(h4 j u ab hu hab).1.mono (fun _ h => ⟨⟨hS _ h.1.1, h.1.2⟩, h.2⟩) (fun _ _ _ h => h), (h4 j u ab hu hab).2.mono (fun _ h => ⟨⟨hS _ h.1.1, h.1.2⟩, h.2⟩) (fun _ _ _ h => h)⟩⟩
theorem fro_scalar {H : Heap} {S : Nat → Prop} {b i : Nat} {l : List Fr} {m : List (AV × AV)} {u u' : Fr} {ab : AV × AV} (h : FrO H S b l m) (hu : l[i]? = some u) (hab : m[i]? = some ab) (hd : u'.d = u.d) (hp : u'.pins = u.pins) :
    FrO (upd H b (some (.cells (oRows (l.set i u') (m.set i ab)).flatten 37))) S b (l.set i u') (m.set i ab) := by
  obtain ⟨h1, h2, h3, g, h4⟩ := h
  refine ⟨h1, upd_same _ _ _, by rw [List.length_set, List.length_set]; exact h3, g, fun j v w hv hw => ?_⟩
  have key : ∀ q id c, ((S id ∧ id ≠ b) ∧ g id = q) → H id = some c → ((S id ∧ id ≠ b) ∧ g id = q) ∧ upd H b (some (.cells (oRows (l.set i u') (m.set i ab)).flatten 37)) id = some c := fun q id c hid hc => ⟨hid, by rw [upd_ne _ _ hid.1.2]; exact hc⟩
  rw [set_id hab] at hw
  by_cases e : i = j
  · subst e
    rw [set_at hu] at hv; cases hv
    have := h4 i u w hu hw
    rw [hd, hp]
    exact ⟨this.1.mv (key _), this.2.mv (key _)⟩
  · rw [List.getElem?_set_ne e] at hv
    have := h4 j v w hv hw
    exact ⟨this.1.mv (key _), this.2.mv (key _)⟩
/-- One has other bytes, or other pins, in a new block. -/
theorem fro_new {H H1 : Heap} {S : Nat → Prop} {b n i : Nat} {l : List Fr} {m : List (AV × AV)} {u u' : Fr} {ab ab' : AV × AV} (h : FrO H S b l m) (hb : b < n) (htop : ∀ id, n ≤ id → H id = none) (h1 : ∀ id, id < n → H1 id = H id) (hu : l[i]? = some u) (hab : m[i]? = some ab)
    (hnew : (Own H1 (fun x => x = n) ab'.1 (.view (byteRows u'.d)) ∧ ab'.2 = ab.2 ∧ u'.pins = u.pins) ∨ (ab'.1 = .empty ∧ u'.d = [] ∧ Own H1 (fun x => x = n) ab'.2 (.view (intRows u'.pins)))) :
    FrO (upd H1 b (some (.cells (oRows (l.set i u') (m.set i ab')).flatten 37))) (fun x => S x ∨ x = n) b (l.set i u') (m.set i ab') := by
  obtain ⟨g1, g2, g3, g, g4⟩ := h
  have lt : ∀ id c, H id = some c → id < n := fun id c hc => by
    rcases Nat.lt_or_ge id n with h | h
    · exact h
    · rw [htop id h] at hc; cases hc
  have key : ∀ q z id c, ((S id ∧ id ≠ b) ∧ g id = q) → H id = some c → (((S id ∨ id = n) ∧ id ≠ b) ∧ (if id = n then z else g id) = q) ∧ upd H1 b (some (.cells (oRows (l.set i u') (m.set i ab')).flatten 37)) id = some c := fun q z id c hid hc => by
    have := lt id c hc
    exact ⟨⟨⟨.inl hid.1.1, hid.1.2⟩, by rw [if_neg (by omega)]; exact hid.2⟩, by rw [upd_ne _ _ hid.1.2, h1 id this]; exact hc⟩
  have knew : ∀ z id c, id = n → H1 id = some c → (((S id ∨ id = n) ∧ id ≠ b) ∧ (if id = n then z else g id) = z) ∧ upd H1 b (some (.cells (oRows (l.set i u') (m.set i ab')).flatten 37)) id = some c := fun z id c hid hc => by
    exact ⟨⟨⟨.inr hid, by omega⟩, by rw [if_pos hid]⟩, by rw [upd_ne _ _ (by omega)]; exact hc⟩
  rcases hnew with ⟨o1, o2, o3⟩ | ⟨o1, o2, o3⟩
  · refine ⟨.inl g1, upd_same _ _ _, by rw [List.length_set, List.length_set]; exact g3, fun x => if x = n then 2 * i else g x, fun j v w hv hw => ?_⟩
    by_cases e : i = j
    · subst e
      rw [set_at hu] at hv; cases hv
      rw [set_at hab] at hw; cases hw
      have := g4 i u ab hu hab
      exact ⟨o1.mv (knew (2 * i)), by rw [o2, o3]; exact this.2.mv (key _ _)⟩
    · rw [List.getElem?_set_ne e] at hv hw
      have := g4 j v w hv hw
      exact ⟨this.1.mv (key _ _), this.2.mv (key _ _)⟩
  · refine ⟨.inl g1, upd_same _ _ _, by rw [List.length_set, List.length_set]; exact g3, fun x => if x = n then 2 * i + 1 else g x, fun j v w hv hw => ?_⟩
    by_cases e : i = j
    · subst e
      rw [set_at hu] at hv; cases hv
      rw [set_at hab] at hw; cases hw
      exact ⟨by rw [o1, o2]; exact .nothing, o3.mv (knew (2 * i + 1))⟩
    · rw [List.getElem?_set_ne e] at hv hw
      have := g4 j v w hv hw
      exact ⟨this.1.mv (key _ _), this.2.mv (key _ _)⟩
/-- A cell of pins in own memory. -/
theorem ints_own {H : Heap} {S : Nat → Prop} {x : AV} {ns : List Int} (h0 : 0 < ns.length) (h : Own H S x (.view (intRows ns))) : ∃ id off cap cs e, x = .slice id off ns.length cap 1 ∧ S id ∧ H id = some (.cells cs e) ∧ off + ns.length ≤ cs.length ∧ ∀ (i : Nat) v, ns[i]? = some v → cs[off + i]? = some (.int .i64 v) := by
  obtain ⟨id, off, cap, cs, e, h1, h2, h3, h4, h5⟩ := Own.view_inv (sz := 1) (intRows_row ns) (by rw [intRows_len]; exact h0) h
  rw [intRows_len] at h1 h4
  refine ⟨id, off, cap, cs, e, h1, h2, h3, by omega, fun i v hv => ?_⟩
  have hi := (List.getElem?_eq_some_iff.1 hv).1
  have hx : cs[off + i]? = some (cs[off + i]'(by omega)) := List.getElem?_eq_getElem _
  have hf : (intRows ns).flatten[i]? = some (.int .i64 v) := by
    have := flat_at (intRows_row ns) (int_row hv) (j := 0) (by decide)
    simpa using this
  rw [hx, (h5 i _ _ hx hf).int_inv]
theorem ints_mk {H : Heap} {S : Nat → Prop} {id off : Nat} {cap : Option Nat} {cs : List AV} {e : TypeId} {ns : List Int} (hS : S id) (hH : H id = some (.cells cs e)) (hl : off + ns.length ≤ cs.length) (h : ∀ (i : Nat) v, ns[i]? = some v → cs[off + i]? = some (.int .i64 v)) : Own H S (.slice id off ns.length cap 1) (.view (intRows ns)) := by
  have hfl : (intRows ns).flatten.length = ns.length * 1 := by rw [flat_len (intRows_row ns), intRows_len]
  have := Own.slice (H := H) (S := S) (cap := cap) (off := off) (len := ns.length) (sz := 1) (ys := (intRows ns).flatten) hS hH (by omega) hfl (fun i x y hx hy => ?_)
  · rw [← intRows_len ns, chunk_flatten (intRows_row ns), intRows_len] at this
    exact this
  · have hi : i < ns.length := by have := (List.getElem?_eq_some_iff.1 hy).1; omega
    have hv : ns[i]? = some ns[i] := List.getElem?_eq_getElem hi
    have hf := flat_at (intRows_row ns) (int_row hv) (j := 0) (by decide)
    have hf : (intRows ns).flatten[i]? = some (.int .i64 ns[i]) := by simpa using hf
    rw [h i _ hv] at hx
    rw [hf] at hy
    cases hx; cases hy
    exact .int _ _
/-- One has a pin more, or less, in its block. -/
theorem fro_pins {H : Heap} {S : Nat → Prop} {b i id off c : Nat} {cap : Option Nat} {cs : List AV} {e : TypeId} {l : List Fr} {m : List (AV × AV)} {u u' : Fr} {ab : AV × AV} {v : Int} (h : FrO H S b l m) (hu : l[i]? = some u) (hab : m[i]? = some ab) (hc : c < u.pins.length)
    (hx : ab.2 = .slice id off u.pins.length cap 1) (hH : H id = some (.cells cs e)) (hcs : off + u.pins.length ≤ cs.length) (hat : ∀ (i : Nat) v, u.pins[i]? = some v → cs[off + i]? = some (.int .i64 v)) (hid : ∃ g : Nat → Nat, g id = 2 * i + 1 ∧ ∀ (j : Nat) u ab, l[j]? = some u → m[j]? = some ab → Own H (fun x => (S x ∧ x ≠ b) ∧ g x = 2 * j) ab.1 (.view (byteRows u.d)) ∧ Own H (fun x => (S x ∧ x ≠ b) ∧ g x = 2 * j + 1) ab.2 (.view (intRows u.pins))) (hlo : S id ∧ id ≠ b)
    (hd : u'.d = u.d) (hp : u'.pins = u.pins.set c v) : FrO (upd (upd H id (some (.cells (cs.set (off + c) (.int .i64 v)) e))) b (some (.cells (oRows (l.set i u') (m.set i ab)).flatten 37))) S b (l.set i u') (m.set i ab) := by
  obtain ⟨g1, g2, g3, _⟩ := h
  obtain ⟨g, gid, g4⟩ := hid
  refine ⟨g1, upd_same _ _ _, by rw [List.length_set, List.length_set]; exact g3, g, fun j w z hw hz => ?_⟩
  have key : ∀ q, q ≠ 2 * i + 1 → ∀ x k, ((S x ∧ x ≠ b) ∧ g x = q) → H x = some k → ((S x ∧ x ≠ b) ∧ g x = q) ∧ upd (upd H id (some (.cells (cs.set (off + c) (.int .i64 v)) e))) b (some (.cells (oRows (l.set i u') (m.set i ab)).flatten 37)) x = some k := fun q hq x k hx hk =>
    ⟨hx, by rw [upd_ne _ _ hx.1.2, upd_ne _ _ (fun e => hq (by rw [← hx.2, e, gid]))]; exact hk⟩
  rw [set_id hab] at hz
  by_cases eij : i = j
  · subst eij
    rw [set_at hu] at hw; cases hw
    rw [hab] at hz; cases hz
    have := g4 i u ab hu hab
    rw [hd, hp]
    refine ⟨this.1.mv (key _ (by omega)), ?_⟩
    rw [hx]
    have hl : (u.pins.set c v).length = u.pins.length := List.length_set
    rw [← hl]
    refine ints_mk ⟨hlo, gid⟩ (by rw [upd_ne _ _ hlo.2, upd_same]) (by rw [hl, List.length_set]; exact hcs) (fun k y hy => ?_)
    rw [List.getElem?_set] at hy ⊢
    by_cases ec : c = k
    · subst ec
      rw [if_pos rfl, if_pos hc] at hy; cases hy
      rw [if_pos rfl, if_pos (by omega)]
    · rw [if_neg ec] at hy
      rw [if_neg (by omega)]
      exact hat k y hy
  · rw [List.getElem?_set_ne eij] at hw
    have := g4 j w z hw hz
    exact ⟨this.1.mv (key _ (by omega)), this.2.mv (key _ (by omega))⟩
end Go.Proofs.Ytlmighkbeacjnaa
