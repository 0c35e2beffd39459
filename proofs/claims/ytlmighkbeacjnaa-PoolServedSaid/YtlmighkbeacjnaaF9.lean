/- FramesClock: what the clock takes; plain. -/
import Derived.Test.YtlmighkbeacjnaaF8
open Go Go.Lg
set_option linter.unusedSimpArgs false
set_option linter.unusedVariables false
set_option maxHeartbeats 4000000
set_option maxRecDepth 20000
namespace Go.Proofs.Ytlmighkbeacjnaa
theorem may_free {c : Cf} {x : Fr} (h : mayF c x = true) : freeF x = !skip x := by
  simp only [mayF, Bool.and_eq_true] at h
  obtain ⟨_, h⟩ := h
  by_cases k0 : x.k = 0
  · have hp : pinned x = false := by simp [k0] at h; exact h.1.1.2
    simp [freeF, skip, k0, hp]
  · by_cases k1 : x.k = 1
    · simp [freeF, skip, k1]
    · by_cases k2 : x.k = 2
      · simp [freeF, skip, k2]
      · simp [k0, k1, k2] at h
theorem may_unref {c : Cf} {x : Fr} (h : mayF c x = true) : mayF c (unref x) = true := by
  by_cases k0 : x.k = 0
  · simp [mayF, unref, pinned, wildP, k0] at h ⊢; simp_all
  · by_cases k1 : x.k = 1
    · simp [mayF, unref, pinned, wildP, k1] at h ⊢; simp_all
    · by_cases k2 : x.k = 2
      · simp [mayF, unref, pinned, wildP, k2] at h ⊢; simp_all
      · simp [mayF, k0, k1, k2] at h
theorem okL_may {c : Cf} : ∀ {l : List Fr} {s : List Int}, okL c s l = true → ∀ x, x ∈ l → mayF c x = true
  | [], _, _, x, hx => by cases hx
  | y :: l, s, h, x, hx => by
    simp only [okL, Bool.and_eq_true] at h
    rcases List.mem_cons.1 hx with rfl | hx
    · exact h.1
    · have h2 := h.2
      by_cases k0 : y.k = 0
      · simp [k0] at h2; exact okL_may h2 x hx
      · simp [k0] at h2; exact okL_may h2.2 x hx
theorem okL_rel {c : Cf} : ∀ {l l' : List Fr} {s : List Int}, l'.length = l.length → (∀ (j : Nat) x y, l[j]? = some x → l'[j]? = some y → y.k = x.k ∧ y.p = x.p ∧ mayF c y = true) → okL c s l = true → okL c s l' = true
  | [], [], _, _, _, _ => rfl
  | [], _ :: _, _, h, _, _ => by simp at h
  | _ :: _, [], _, h, _, _ => by simp at h
  | x :: l, y :: l', s, hl, hr, h => by
    obtain ⟨h1, h2, h3⟩ := hr 0 x y rfl rfl
    have ih := fun s => okL_rel (c := c) (l := l) (l' := l') (s := s) (by simpa using hl) (fun j u v hu hv => hr (j + 1) u v (by simpa using hu) (by simpa using hv))
    simp only [okL, Bool.and_eq_true] at h ⊢
    refine ⟨h3, ?_⟩
    rw [h1, h2]
    by_cases k0 : x.k = 0
    · simp [k0] at h ⊢; exact ih s h.2
    · simp [k0] at h ⊢; exact ⟨h.2.1, ih _ h.2.2⟩
theorem okF_parts {c : Cf} {f : Fs} (h : okF c f = true) : c.good = true ∧ (f.l.length : Int) = c.fr ∧ 0 ≤ f.h ∧ f.h < f.l.length ∧ okL c [] f.l = true := by
  simp only [okF, okS, Bool.and_eq_true, decide_eq_true_eq] at h
  exact ⟨h.1.1.1.1, h.1.1.1.2, h.1.1.2, h.1.2, h.2⟩
theorem okF_swept {c : Cf} {f : Fs} (h : okF c f = true) (h0 i : Nat) (hand : Nat) (hh : hand < f.l.length) : okF c ⟨swept f.l h0 i, (hand : Int)⟩ = true := by
  obtain ⟨h1, h2, h3, h4, h5⟩ := okF_parts h
  have hok : okL c [] (swept f.l h0 i) = true := by
    refine okL_rel (swept_len _ _ _) (fun j x y hx hy => ?_) h5
    rw [swept_get hx] at hy
    have hm := okL_may h5 x (List.mem_of_getElem? hx)
    split at hy
    · cases hy; exact ⟨rfl, rfl, may_unref hm⟩
    · cases hy; exact ⟨rfl, rfl, hm⟩
  simp only [okF, okS, swept_len, h1, h2, hok, Bool.and_true, Bool.true_and, decide_true]
  simp; omega
/-- The parts of the clock's law, of frames that may be. -/
structure TakeL (l : List Fr) (h i : Nat) : Prop where
  some_ : l.any freeF = true
  free_ : ∃ x, l[cat h l.length i]? = some x ∧ freeF x = true ∧ (x.rf = true → ∀ y, y ∈ l → freeF y = true → y.rf = true)
  off : ∃ y, (swept l h i)[cat h l.length i]? = some y ∧ y.rf = false
theorem vic_take {c : Cf} {l : List Fr} {h i : Nat} (hm : ∀ x, x ∈ l → mayF c x = true) (hh : h < l.length) (hv : vic l h = some i) : TakeL l h i := by
  obtain ⟨hp, hs, _, _⟩ := (first_past (k := 2 * l.length) (by omega) (past_zero l h)).1 i hv
  obtain ⟨x, hx⟩ : ∃ x, l[cat h l.length i]? = some x := ⟨_, List.getElem?_eq_getElem (cat_lt (by omega))⟩
  have hxm := List.mem_of_getElem? hx
  simp only [stops, hx, Bool.and_eq_true, Bool.not_eq_true'] at hs
  have hfx : freeF x = true := by rw [may_free (hm x hxm), hs.1]; rfl
  refine ⟨List.any_eq_true.2 ⟨x, hxm, hfx⟩, ⟨x, hx, hfx, fun hr y hy hfy => ?_⟩, ⟨_, swept_at hx, hs.2⟩⟩
  refine past_take hh hp hx hs.1 hs.2 hr y hy ?_
  rw [may_free (hm y hy)] at hfy
  simpa using hfy
theorem vic_none {c : Cf} {l : List Fr} {h : Nat} (hm : ∀ x, x ∈ l → mayF c x = true) (hh : h < l.length) (hv : vic l h = none) : l.any freeF = false := by
  have hp := (first_past (k := 2 * l.length) (by omega) (past_zero l h)).2 hv
  rw [Nat.zero_add] at hp
  have := past_end hh hp
  rw [List.any_eq_false]
  intro x hx
  rw [may_free (hm x hx), this x hx]; simp
/-- Behind the clock, only the Refs of frames that may be taken are turned, and off. -/
theorem swept_turn {c : Cf} {l : List Fr} {h i j : Nat} {x : Fr} (hm : mayF c x = true) (hx : l[j]? = some x) : ∃ y, (swept l h i)[j]? = some y ∧ (freeF x = false → y.rf = x.rf) ∧ (y.rf = true → x.rf = true) ∧ { y with rf := x.rf } = x := by
  refine ⟨_, swept_get hx, ?_⟩
  split
  · rename_i hc
    refine ⟨fun hf => ?_, fun hr => by simp [unref] at hr, rfl⟩
    rw [may_free hm, hc.1] at hf; cases hf
  · exact ⟨fun _ => rfl, fun h => h, rfl⟩
/-- Frames whose first Refs are set back. -/
def mixed_ (l s : List Fr) (j : Nat) : List Fr := l.take j ++ s.drop j
end Go.Proofs.Ytlmighkbeacjnaa
