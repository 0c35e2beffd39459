/- What turning a frame tells; answers in new memory that are compared. -/
import Derived.Test.YtlmighkbeacjnaaHD
open Go Go.Lg
set_option linter.unusedSimpArgs false
set_option linter.unusedVariables false
set_option maxHeartbeats 4000000
set_option maxRecDepth 20000
namespace Go.Proofs.Ytlmighkbeacjnaa
theorem tz (H : Heap) (e : Int) : Fz H (tup [.agg [.empty, .int .i64 0], .int .i64 e]) (.tuple [.agg (Fs.cells ⟨[], 0⟩), .int .i64 e]) := FzL.tuple (.cons (FzL.agg (.cons .nothing (.cons (.pur (.int _ _)) .nil))) (.cons (.pur (.int _ _)) .nil))
theorem turn_bad {c : Cf} {f : Fs} {a : Int} {E : Fr → Int} (V : Fr → Fr) (h : okF c f = false) : turnE c f a E = 8 ∧ turnF c f a E V = ⟨[], 0⟩ := by
  have : turnE c f a E = 8 := by simp [turnE, h]
  exact ⟨this, by rw [turnF, this]; rfl⟩
theorem turn_out {c : Cf} {f : Fs} {a : Int} {E : Fr → Int} (V : Fr → Fr) (h : okF c f = true) (ha : a < 0 ∨ a ≥ f.l.length) : turnE c f a E = 2 ∧ turnF c f a E V = ⟨[], 0⟩ := by
  have : turnE c f a E = 2 := by rw [turnE, if_pos h, if_pos ha]
  exact ⟨this, by rw [turnF, this]; rfl⟩
theorem turn_no {c : Cf} {f : Fs} {a : Nat} {u : Fr} {E : Fr → Int} (V : Fr → Fr) (h : okF c f = true) (hu : f.l[a]? = some u) {e : Int} (hE : E u = e) (he : e ≠ 0) : turnE c f a E = e ∧ turnF c f a E V = ⟨[], 0⟩ := by
  have hl := (List.getElem?_eq_some_iff.1 hu).1
  have : turnE c f a E = e := by rw [turnE, if_pos h, if_neg (by omega), Int.toNat_natCast, hu]; exact hE
  exact ⟨this, by rw [turnF, this, if_neg he]⟩
theorem turn_yes {c : Cf} {f : Fs} {a : Nat} {u : Fr} {E : Fr → Int} (V : Fr → Fr) (h : okF c f = true) (hu : f.l[a]? = some u) (hE : E u = 0) : turnE c f a E = 0 ∧ turnF c f a E V = ⟨f.l.set a (V u), f.h⟩ := by
  have hl := (List.getElem?_eq_some_iff.1 hu).1
  have : turnE c f a E = E u := by rw [turnE, if_pos h, if_neg (by omega), Int.toNat_natCast, hu]
  exact ⟨this.trans hE, by rw [turnF, this, if_pos hE, Int.toNat_natCast, hu]⟩
theorem ok_cl {c : Cf} {f : Fs} (h : okF c f = true) : 1 ≤ c.cl ∧ c.cl ≤ 4 ∧ (c.cl : Int) = ((c.cl.toNat : Nat) : Int) ∧ ∀ x, x ∈ f.l → (x.pins.length : Int) = c.cl ∧ ∀ n, n ∈ x.pins → 0 ≤ n ∧ n ≤ 8 := by
  obtain ⟨k1, k2, k3, k4, k5⟩ := okF_parts h
  obtain ⟨n, fr, hn, hfr, hn1, hf1⟩ := good_nums k1
  refine ⟨by omega, by omega, by omega, fun x hx => ?_⟩
  have hm := (okL_iff.1 k5).1 x hx
  unfold mayF at hm
  simp only [Bool.and_eq_true, decide_eq_true_eq] at hm
  refine ⟨hm.1.1, fun n hn => ?_⟩
  have hw := hm.1.2
  simp only [wildP, Bool.not_eq_true', List.any_eq_false, decide_eq_true_eq] at hw
  have := hw n hn
  omega
theorem own_turn {H : Heap} {S : Nat → Prop} {x : AV} {f : Fs} {e : Int} (h : Own H S x (.tuple [.agg f.cells, .int .i64 e])) : ∃ a, x = .tuple [.agg [a, .int .i64 f.h], .int .i64 e] ∧ Own H S a (.view (frRows f.l)) := by
  obtain ⟨xs, rfl, h1⟩ := h.tuple_inv
  obtain ⟨x1, r1, rfl, h2, h3⟩ := h1.cons_inv
  obtain ⟨x2, r2, rfl, h4, h5⟩ := h3.cons_inv
  obtain rfl := h5.nil_inv
  obtain rfl := h4.int_inv
  obtain ⟨a, rfl, ho⟩ := own_fs h2
  exact ⟨a, rfl, ho⟩
theorem lt_top {H : Heap} {k id : Nat} {b : Blk} (h : ∀ id, k ≤ id → H id = none) (hb : H id = some b) : id < k := by
  rcases Nat.lt_or_ge id k with hx | hx
  · exact hx
  · rw [h id hx] at hb; cases hb
def Small (f : Fs) : Prop := f.l.length ≤ 1000000 ∧ ∀ x, x ∈ f.l → x.d.length ≤ 1000000 ∧ x.pins.length ≤ 1000000
theorem look15 {H : Heap} {n : Nat} {S : Nat → Prop} {a : AV} {F : Fs} (hs : Small F) (ho : Own H S a (.view (frRows F.l))) : AC Try.prog 15 [.agg [a, .int .i64 F.h], .agg F.cells] H n (fun r h' n' => r = .ret (.bool true) ∧ h' = H ∧ n' = n) := by
  have h := pf15 F F hs.1 (fun x hx => (hs.2 x hx).2)
  rw [sameF_self] at h
  exact PF.look h (.bool _) _ _ (.cons (FzL.agg (.cons ho.fz (.cons (.pur (.int _ _)) .nil))) (.cons (.pur (fsa_pur F)) .nil))
theorem turn_small {c : Cf} {f : Fs} {a : Int} {E : Fr → Int} {V : Fr → Fr} (hl : f.l.length ≤ 1000000) (hd : ∀ x, x ∈ f.l → x.d.length ≤ 1000000 ∧ x.pins.length ≤ 1000000) (hv : ∀ u, u ∈ f.l → okF c f = true → (V u).d.length ≤ 1000000 ∧ (V u).pins.length ≤ 1000000) : Small (turnF c f a E V) := by
  unfold turnF
  split
  · rename_i h0
    have hok : okF c f = true := by
      cases hk : okF c f with
      | true => rfl
      | false => simp [turnE, hk] at h0
    split
    · rename_i u hu
      refine ⟨by rw [List.length_set]; exact hl, fun x hx => ?_⟩
      rcases List.mem_or_eq_of_mem_set hx with h | rfl
      · exact hd x h
      · exact hv u (List.mem_of_getElem? hu) hok
    · exact ⟨by simp, fun x hx => by simp at hx⟩
  · exact ⟨by simp, fun x hx => by simp at hx⟩
end Go.Proofs.Ytlmighkbeacjnaa
