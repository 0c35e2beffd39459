/- pool.Do: what a call waits for. Plain. -/
import Derived.Test.YtlmighkbeacjnaaGreatDoorP6
open Go Go.Lg
set_option linter.unusedSimpArgs false
set_option linter.unusedVariables false
set_option maxHeartbeats 4000000
namespace Go.Proofs.YtlmighkbeacjnaaGreatDoor
/-- What a call that is done waits for. -/
structure WaitP (c : Cf) (q : List Un) (x : Ca) (P : Po) : Prop where
  e : P.e = 0
  w0 : 0 ≤ P.w
  w1 : P.w ≤ P.q.length
  cq : (P.q.length : Int) ≤ c.q
  up : q.length ≤ P.q.length
  ft : x.k = 1 → P.w > 0 → ∃ (a : Nat) (u : Un), P.w - 1 = a ∧ P.q[a]? = some u ∧ u.k = 1 ∧ u.p = x.p
  fl : x.k = 5 → P.w = P.q.length
  no : x.k ≠ 1 → x.k ≠ 5 → P.w = 0
theorem lastP_mem {d : Int} {v : Un} (hp : v.p = d) : ∀ {l : List Un}, v ∈ l → lastP d l ≠ 0
  | [], h => by cases h
  | u :: us, h => by
    by_cases h1 : lastP d us = 0
    · have hvu : v = u := by
        rcases List.mem_cons.1 h with e | e
        · exact e
        · exact absurd h1 (lastP_mem hp e)
      simp [lastP, h1, ← hvu, hp]
    · simp [lastP, h1]
theorem lastP_get (d : Int) : ∀ (l : List Un), lastP d l ≠ 0 → ∃ u, l[lastP d l - 1]? = some u ∧ u.p = d ∧ ∀ (j : Nat) v, l[j]? = some v → lastP d l - 1 < j → v.p ≠ d
  | [], h => absurd rfl h
  | u :: us, h => by
    have ih := lastP_get d us
    simp only [lastP] at h ⊢
    by_cases h1 : lastP d us = 0
    · simp only [h1, ne_eq, not_true_eq_false, if_false] at h ⊢
      by_cases h2 : u.p = d
      · rw [if_pos h2]
        refine ⟨u, rfl, h2, fun j v hv hj => ?_⟩
        cases j with
        | zero => omega
        | succ j =>
          intro hp
          have hj2 : us[j]? = some v := by simpa using hv
          exact lastP_mem hp (List.mem_of_getElem? hj2) h1
      · rw [if_neg h2] at h; exact absurd rfl h
    · simp only [h1, ne_eq, not_false_eq_true, if_true] at h ⊢
      obtain ⟨v, hv, hp, hn⟩ := ih h1
      refine ⟨v, ?_, hp, fun j w hw hj => ?_⟩
      · rw [show lastP d us + 1 - 1 = (lastP d us - 1) + 1 by omega, List.getElem?_cons_succ]; exact hv
      · cases j with
        | zero => omega
        | succ j => exact hn j w (by simpa using hw) (by omega)
/-- The last unit of a page that is fetched is its fetch. -/
theorem ahead_fetch {c : Cf} {f : Fs} {q : List Un} {a : Nat} {x : Fr} {page : Int} (ht : Tog f q) (hq : qok c q = true) (hx : f.l[a]? = some x) (hk : x.k = 1) (hp : x.p = page) : ∃ (b : Nat) (u : Un), ahI c q page - 1 = b ∧ q[b]? = some u ∧ u.k = 1 ∧ u.p = page := by
  have h1 := ht.one a x hx hk
  obtain ⟨u, hu⟩ := List.exists_mem_of_length_pos (l := q.filter fun u : Un => decide (u.k = 1 ∧ u.f = (a : Int))) (by omega)
  obtain ⟨h2, h3⟩ := List.mem_filter.1 hu
  simp only [decide_eq_true_eq] at h3
  obtain ⟨i, hi, rfl⟩ := List.getElem_of_mem h2
  have hqi : q[i]? = some q[i] := List.getElem?_eq_getElem hi
  obtain ⟨y, hy, y1, y2⟩ := ht.ld i _ hqi h3.1
  rw [h3.2, Int.toNat_natCast, hx] at hy; cases hy
  have hup : q[i].p = page := by rw [← y2, hp]
  have hl : lastP page q ≠ 0 := lastP_mem hup h2
  obtain ⟨v, hv, vp, vn⟩ := lastP_get page q hl
  refine ⟨lastP page q - 1, v, by rw [ahI, if_pos hq]; omega, hv, ?_, vp⟩
  have hm : mayU c v = true := by
    simp only [qok, Bool.and_eq_true, List.all_eq_true] at hq
    exact hq.2 v (List.mem_of_getElem? hv)
  rcases (mayU_parts hm).1 with h2k | h1k
  · exfalso
    rcases Nat.lt_trichotomy i (lastP page q - 1) with h | h | h
    · exact ht.wr i _ _ v h hqi hv h3.1 h2k (by rw [hup, vp])
    · rw [← h, hqi] at hv; cases hv; omega
    · exact vn i _ hqi h hup
  · exact h1k
theorem call_wait {c : Cf} {f : Fs} {q : List Un} {cl : Int} {x : Ca} (hok : okF c f = true) (hqk : qok c q = true) (ht : Tog f q) (he : (callR c cl (p0 f q 0) x).2 = 0) : WaitP c q x (callR c cl (p0 f q 0) x).1 := by
  have hqc : (q.length : Int) ≤ c.q := by simp only [qok, Bool.and_eq_true, decide_eq_true_eq] at hqk; exact hqk.1.2
  have same : ∀ (P : Po), P.q = q → P.e = 0 → P.w = 0 → x.k ≠ 5 → WaitP c q x P := fun P h2 h3 h4 h5 =>
    ⟨h3, by omega, by omega, by rw [h2]; exact hqc, by rw [h2]; exact Nat.le_refl _, fun _ h => by omega, fun h => absurd h h5, fun _ _ => h4⟩
  have put : ∀ (P : Po) (m : List Un), P.q = putU c q m → P.e = 0 → P.w = (putU c q m).length → putE c q m = 0 → (x.k = 1 → ∃ u s, m = s ++ [u] ∧ u.k = 1 ∧ u.p = x.p) → (x.k = 1 ∨ x.k = 5) → WaitP c q x P := fun P m h1 h2 h3 h4 h5 h6 => by
    obtain ⟨g1, g2⟩ := put_ok h4
    have hqc2 : ((q ++ m).length : Int) ≤ c.q := by simp only [qok, Bool.and_eq_true, decide_eq_true_eq] at g1; exact g1.1.2
    rw [g2] at h1 h3
    refine ⟨h2, by omega, by rw [h1]; omega, by rw [h1]; exact hqc2, by rw [h1, List.length_append]; omega, fun hk hw => ?_, fun _ => by rw [h1, h3], fun h7 h8 => by omega⟩
    obtain ⟨u, s, e1, e2, e3⟩ := h5 hk
    refine ⟨(q ++ s).length, u, ?_, ?_, e2, e3⟩
    · rw [h3, e1]; simp; omega
    · rw [h1, e1, ← List.append_assoc, List.getElem?_append_right (Nat.le_refl _)]; simp
  unfold callR at he ⊢
  by_cases h5 : x.k = 5
  · rw [if_pos h5] at he ⊢
    unfold flushR at he ⊢
    split at he
    · rename_i hp
      rw [if_pos hp]
      exact put _ (backL f.l 0) rfl rfl rfl hp (fun h => by omega) (.inr h5)
    · rename_i hp; exact absurd he hp
  · rw [if_neg h5] at he ⊢
    by_cases h6 : x.k = 6
    · rw [if_pos h6] at he ⊢
      unfold sealR at he ⊢
      split at he
      · cases he
      · rename_i h1
        split at he
        · cases he
        · rename_i h2
          rw [if_neg h1, if_neg h2]
          exact same _ rfl rfl rfl h5
    · rw [if_neg h6] at he ⊢
      by_cases hpg : x.p < 0 ∨ x.p ≥ c.p
      · rw [if_pos hpg] at he; cases he
      · rw [if_neg hpg] at he ⊢
        by_cases hno : fidx (isAt x.p) (p0 f q 0).f.l 0 < 0
        · rw [if_pos hno] at he ⊢
          by_cases h1 : x.k = 1
          · rw [if_pos h1] at he ⊢
            unfold takeR at he ⊢
            by_cases hv : vicE c f = 0
            · have hv' : vicE c (p0 f q 0).f = 0 := hv
              rw [if_pos hv'] at he ⊢
              obtain ⟨a, y, hV⟩ := vic_parts hok hv
              have e1 : vicA c (p0 f q 0).f = a := hV.at_
              have e2 : (vicF c (p0 f q 0).f).l[a]? = some y := hV.get
              rw [e1, Int.toNat_natCast, e2] at he ⊢
              simp only at he ⊢
              by_cases hp : putE c (p0 f q 0).q (fetU y a x.p) = 0
              · rw [if_pos hp]
                exact put _ (fetU y a x.p) rfl rfl rfl hp (fun _ => ⟨⟨1, x.p, a, []⟩, _, rfl, rfl, rfl⟩) (.inl h1)
              · rw [if_neg hp] at he; exact absurd he hp
            · have hv' : ¬ vicE c (p0 f q 0).f = 0 := hv
              rw [if_neg hv'] at he; exact absurd he hv
          · rw [if_neg h1] at he; cases he
        · rw [if_neg hno] at he ⊢
          obtain ⟨a, u, hf, hu, hat⟩ := fidx_get (P := isAt x.p) (l := (p0 f q 0).f.l) (i := 0) (by omega)
          rw [Nat.zero_add] at hf
          rw [hf, Int.toNat_natCast, hu] at he ⊢
          simp only at he ⊢
          have hu : f.l[a]? = some u := hu
          simp only [isAt, decide_eq_true_eq] at hat
          by_cases h1 : x.k = 1
          · rw [if_pos h1] at he ⊢
            unfold hitR at he ⊢
            by_cases hk1 : u.k = 1
            · obtain ⟨b, v, b1, b2, b3, b4⟩ := ahead_fetch ht hqk hu hk1 hat.2
              have hb := (List.getElem?_eq_some_iff.1 b2).1
              have hw : ahI c q x.p = (b : Int) + 1 := by omega
              refine ⟨rfl, ?_, ?_, hqc, Nat.le_refl _, fun _ _ => ⟨b, v, ?_, b2, b3, b4⟩, fun h => absurd h h5, fun h => absurd h1 h⟩
              · show 0 ≤ (if u.k = 1 then ahI c q x.p else 0); rw [if_pos hk1]; omega
              · show (if u.k = 1 then ahI c q x.p else 0) ≤ (q.length : Int); rw [if_pos hk1]; omega
              · show (if u.k = 1 then ahI c q x.p else 0) - 1 = (b : Int); rw [if_pos hk1]; exact b1
            · refine ⟨rfl, ?_, ?_, hqc, Nat.le_refl _, fun _ h => ?_, fun h => absurd h h5, fun h => absurd h1 h⟩
              · show 0 ≤ (if u.k = 1 then ahI c q x.p else 0); rw [if_neg hk1]; omega
              · show (if u.k = 1 then ahI c q x.p else 0) ≤ (q.length : Int); rw [if_neg hk1]; omega
              · have h : (if u.k = 1 then ahI c q x.p else 0) > 0 := h
                rw [if_neg hk1] at h; omega
          · rw [if_neg h1] at he ⊢
            by_cases hb : u.k ≠ 2 ∨ pinN u cl = 0
            · rw [if_pos hb] at he; cases he
            · rw [if_neg hb] at he ⊢
              by_cases h2 : x.k = 2
              · rw [if_pos h2]; exact same _ rfl rfl rfl h5
              · rw [if_neg h2] at he ⊢
                by_cases h3 : x.k = 3
                · rw [if_pos h3] at he ⊢
                  unfold turnR at he ⊢
                  split at he
                  · rename_i ht; rw [if_pos ht]; exact same _ rfl rfl rfl h5
                  · rename_i ht; exact absurd he ht
                · rw [if_neg h3] at he ⊢
                  unfold turnR at he ⊢
                  split at he
                  · rename_i ht; rw [if_pos ht]; exact same _ rfl rfl rfl h5
                  · rename_i ht; exact absurd he ht
end Go.Proofs.YtlmighkbeacjnaaGreatDoor

