/- What the levels and roads are (plain lemmas). -/
import Derived.Test.YtclldbeefbbdlaaD5
open Go Go.Lg
set_option linter.unusedSimpArgs false
set_option linter.unusedVariables false
set_option maxHeartbeats 2000000
namespace Go.Proofs.Ytclldbeefbbdlaa
/-- The numbers of blocks. -/
def bn (f n : Int) : Nat → Int
  | 0 => n
  | i + 1 => bn f ((n + f - 1).tdiv f) i
theorem bn_succ (f : Int) : ∀ (i : Nat) (n : Int), bn f n (i + 1) = (bn f n i + f - 1).tdiv f
  | 0, n => rfl
  | i + 1, n => bn_succ f i _
theorem levsF_spec (s f t : Int) (hf : 2 ≤ f ∧ f ≤ 8) (ht : 1 ≤ t) : ∀ (k : Nat) (n m : Int), 2 ≤ k → k ≤ 8 → 1 ≤ n → n ≤ p2 (k - 2) → ∀ (i : Nat) (x : Lev), (levsF s f t k n m)[i]? = some x →
    x = levOf s (bn f n i) (if i = 0 then m else 4 * f) ∧ 1 ≤ bn f n i ∧ bn f n i ≤ 64 ∧ (bn f n i ≤ t ↔ i + 1 = (levsF s f t k n m).length)
  | 0, _, _, h, _, _, _ => by omega
  | k + 1, n, m, hk, hk8, hn, hnk => by
    intro i x hx
    have h64 : n ≤ 64 := by
      have hc : k + 1 = 2 ∨ k + 1 = 3 ∨ k + 1 = 4 ∨ k + 1 = 5 ∨ k + 1 = 6 ∨ k + 1 = 7 ∨ k + 1 = 8 := by omega
      rcases hc with h | h | h | h | h | h | h <;> rw [h] at hnk <;> simp [p2] at hnk <;> omega
    obtain ⟨d1, d2⟩ := div_bound hn h64 hf
    have hlev : levsF s f t (k + 1) n m = levOf s n m :: (if n ≤ t then [] else levsF s f t k ((n + f - 1).tdiv f) (4 * f)) := rfl
    rw [hlev] at hx ⊢
    by_cases hle : n ≤ t
    · rw [if_pos hle] at hx ⊢
      cases i with
      | zero => simp at hx; exact ⟨hx.symm, hn, h64, by simpa [bn] using hle⟩
      | succ i => simp at hx
    · rw [if_neg hle] at hx ⊢
      obtain ⟨j, rfl⟩ : ∃ j, k = j + 2 := by
        have : k ≠ 1 := by rintro rfl; simp [p2] at hnk; omega
        exact ⟨k - 2, by omega⟩
      have e : p2 (j + 2 + 1 - 2) = 2 * p2 j := rfl
      rw [e] at hnk
      have hpos : 1 ≤ (levsF s f t (j + 2) ((n + f - 1).tdiv f) (4 * f)).length := by simp [levsF]
      cases i with
      | zero =>
        simp at hx
        refine ⟨hx.symm, hn, h64, ⟨fun h => absurd h hle, fun h => ?_⟩⟩
        simp only [List.length_cons] at h; omega
      | succ i =>
        rw [List.getElem?_cons_succ] at hx
        obtain ⟨g1, g2, g3, g4⟩ := levsF_spec s f t hf ht (j + 2) _ _ (by omega) (by omega) d1 (show _ ≤ p2 (j + 2 - 2) by show _ ≤ p2 j; omega) i x hx
        refine ⟨?_, g2, g3, ?_⟩
        · rw [ite_self] at g1
          rw [g1, if_neg (by omega)]; rfl
        · show bn f ((n + f - 1).tdiv f) i ≤ t ↔ _
          rw [g4, List.length_cons]; omega
theorem cf_bounds {c : Cf} (hok : c.ok = true) : (1 ≤ c.p ∧ c.p ≤ 64) ∧ (1 ≤ c.z ∧ c.z ≤ 32) ∧ (2 ≤ c.f ∧ c.f ≤ 8) ∧ (1 ≤ c.s ∧ c.s ≤ 4) ∧ (1 ≤ c.t ∧ c.t ≤ 16) := by
  simp [Cf.ok, Cf.spans, inB] at hok; omega
theorem levs_spec (c : Cf) (hok : c.ok = true) {i : Nat} {x : Lev} (hx : c.levs[i]? = some x) :
    x = levOf c.s (bn c.f c.p i) (if i = 0 then c.z else 4 * c.f) ∧ 1 ≤ bn c.f c.p i ∧ bn c.f c.p i ≤ 64 ∧ (bn c.f c.p i ≤ c.t ↔ i + 1 = c.levs.length) := by
  obtain ⟨hp, hz, hf, hs, ht⟩ := cf_bounds hok
  exact levsF_spec c.s c.f c.t hf ht.1 8 c.p c.z (by decide) (by decide) hp.1 (show c.p ≤ p2 (8 - 2) by show c.p ≤ 64; omega) i x hx
theorem qs_lt {f p n : Int} (hf : 2 ≤ f ∧ f ≤ 8) (hp : 0 ≤ p ∧ p < n) : ∀ i, 0 ≤ qs f p i ∧ qs f p i < bn f n i
  | 0 => hp
  | i + 1 => by
    have ih := qs_lt hf hp i
    rw [bn_succ]
    show 0 ≤ (qs f p i).tdiv f ∧ (qs f p i).tdiv f < _
    rw [Int.tdiv_eq_ediv_of_nonneg ih.1, Int.tdiv_eq_ediv_of_nonneg (by omega)]
    have hc : f = 2 ∨ f = 3 ∨ f = 4 ∨ f = 5 ∨ f = 6 ∨ f = 7 ∨ f = 8 := by omega
    rcases hc with rfl | rfl | rfl | rfl | rfl | rfl | rfl <;> omega
theorem qs_back {f p : Int} (hf : 2 ≤ f ∧ f ≤ 8) (hp : 0 ≤ p ∧ p < 64) (i : Nat) : qs f p (i + 1) * f + (qs f p i).tmod f = qs f p i ∧ 0 ≤ (qs f p i).tmod f ∧ (qs f p i).tmod f < f := by
  have ih := qs_bound hf hp i
  show (qs f p i).tdiv f * f + _ = _ ∧ _
  rw [Int.tdiv_eq_ediv_of_nonneg ih.1, Int.tmod_eq_emod_of_nonneg ih.1]
  have h1 := Int.emod_nonneg (qs f p i) (show f ≠ 0 by omega)
  have h2 := Int.emod_lt_of_pos (qs f p i) (show 0 < f by omega)
  have h3 := Int.mul_ediv_add_emod (qs f p i) f
  refine ⟨?_, h1, h2⟩
  rw [Int.mul_comm]; exact h3
theorem hi_fits {n : Int} (h1 : 1 ≤ n) (h64 : n ≤ 64) : n ≤ lv (hi n) ∧ (hi n > 1 → (lv (hi n)).tdiv 2 < n) ∧ le_ (hi n) = 0 := by
  unfold hi
  repeat' split
  all_goals refine ⟨?_, ?_, ?_⟩ <;> first | rfl | (simp [lv] <;> omega) | (intro h; simp [lv] at h ⊢ <;> omega)
end Go.Proofs.Ytclldbeefbbdlaa
