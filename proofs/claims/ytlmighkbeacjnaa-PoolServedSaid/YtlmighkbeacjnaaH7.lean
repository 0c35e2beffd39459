/- Frames in own memory, as cells; bytes and pins written over. -/
import Derived.Test.YtlmighkbeacjnaaLm6
import Derived.Test.YtlmighkbeacjnaaH3
open Go Go.Lg
set_option linter.unusedSimpArgs false
set_option linter.unusedVariables false
set_option maxHeartbeats 4000000
set_option maxRecDepth 20000
namespace Go.Proofs.Ytlmighkbeacjnaa
/-- The cells of frames in own memory that are written over. -/
theorem own_frs {H : Heap} {S : Nat → Prop} {a : AV} {l : List Fr} (h0 : 0 < l.length) (h : Own H S a (.view (frRows l))) : ∃ id off cap cs e, a = .slice id off l.length cap 6 ∧ S id ∧ H id = some (.cells cs e) ∧ off + l.length * 6 ≤ cs.length ∧ ∀ (i : Nat) u, l[i]? = some u → ∃ x2 x3, cs[off + i * 6 + 1]? = some (.int .i64 u.p) ∧ cs[off + i * 6 + 2]? = some x2 ∧ cs[off + i * 6 + 3]? = some x3 ∧ Own H S x2 (.view (byteRows u.d)) ∧ Own H S x3 (.view (intRows u.pins)) := by
  obtain ⟨id, off, cap, cs, e, h1, h2, h3, h4, h5⟩ := Own.view_inv (sz := 6) (frRows_row l) (by rw [frRows_len]; exact h0) h
  rw [frRows_len] at h1 h4
  refine ⟨id, off, cap, cs, e, h1, h2, h3, h4, fun i u hu => ?_⟩
  have hi := (List.getElem?_eq_some_iff.1 hu).1
  have get : ∀ j, j < 6 → ∃ x, cs[off + i * 6 + j]? = some x ∧ ∀ v, u.cells[j]? = some v → Own H S x v := fun j hj => by
    have hx : cs[off + i * 6 + j]? = some (cs[off + i * 6 + j]'(by omega)) := List.getElem?_eq_getElem _
    refine ⟨_, hx, fun v hv => h5 (i * 6 + j) _ v (by rw [← Nat.add_assoc]; exact hx) ?_⟩
    rw [flat_at (frRows_row l) (fr_row hu) hj]; exact hv
  obtain ⟨x1, g1, o1⟩ := get 1 (by decide)
  obtain ⟨x2, g2, o2⟩ := get 2 (by decide)
  obtain ⟨x3, g3, o3⟩ := get 3 (by decide)
  have e1 := (o1 (.int .i64 u.p) rfl).int_inv
  subst e1
  exact ⟨x2, x3, g1, g2, g3, o2 _ rfl, o3 _ rfl⟩
theorem byte_kind (d : List UInt8) : ∀ (i : Nat) r, (byteRows d)[i]? = some r → ∃ a, r = [.int .u8 a] := by
  intro i r h
  obtain ⟨h1, rfl⟩ := List.getElem?_eq_some_iff.1 h
  simp [byteRows]
theorem int_kind (d : List Int) : ∀ (i : Nat) r, (intRows d)[i]? = some r → ∃ a, r = [.int .i64 a] := by
  intro i r h
  obtain ⟨h1, rfl⟩ := List.getElem?_eq_some_iff.1 h
  simp [intRows]
/-- Frames that a function hands back in new memory. -/
theorem own_fs {H : Heap} {S : Nat → Prop} {x : AV} {f : Fs} (h : Own H S x (.agg f.cells)) : ∃ a, x = .agg [a, .int .i64 f.h] ∧ Own H S a (.view (frRows f.l)) := by
  obtain ⟨xs, rfl, h1⟩ := h.agg_inv
  obtain ⟨a, r, rfl, ha, h2⟩ := h1.cons_inv
  obtain ⟨b, r, rfl, hb, h3⟩ := h2.cons_inv
  have := h3.nil_inv
  subst this
  rw [hb.int_inv]
  exact ⟨a, rfl, ha⟩
theorem sameF_self (f : Fs) : sameF f f = true := by simp [sameF]
theorem good_nums {c : Cf} (h : c.good = true) : ∃ n fr : Nat, c.cl = (n : Int) ∧ c.fr = (fr : Int) ∧ (1 ≤ n ∧ n ≤ 4) ∧ 1 ≤ fr ∧ fr ≤ 8 := by
  have hok : c.ok = true := by simp only [Cf.good, Bool.and_eq_true] at h; exact h.1
  have hall : ∀ x, x ∈ c.spans → inB x = true := by simpa [Cf.ok] using hok
  simp only [Cf.spans, List.mem_cons, List.not_mem_nil, or_false, forall_eq_or_imp, forall_eq, inB] at hall
  simp at hall
  exact ⟨c.cl.toNat, c.fr.toNat, by omega, by omega, by omega, by omega, by omega⟩
theorem tup_pur {x y : AV} (hx : Pur x) (hy : Pur y) : Pur (.tuple [x, y]) := .tuple (args_2 hx hy)
end Go.Proofs.Ytlmighkbeacjnaa
