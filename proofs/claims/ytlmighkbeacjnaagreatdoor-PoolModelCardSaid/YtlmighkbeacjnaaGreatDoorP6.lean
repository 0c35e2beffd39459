/- pool.Do, the plain law: what a call's answer is. -/
import Derived.Test.YtlmighkbeacjnaaGreatDoorYi
open Go Go.Lg
set_option linter.unusedSimpArgs false
set_option linter.unusedVariables false
set_option maxHeartbeats 4000000
namespace Go.Proofs.YtlmighkbeacjnaaGreatDoor
theorem put_ok {c : Cf} {q m : List Un} (h : putE c q m = 0) : qok c (q ++ m) = true ∧ putU c q m = q ++ m := by
  unfold putE at h
  split at h
  · rename_i h1
    split at h
    · rename_i h2
      refine ⟨?_, if_pos ⟨h1, h2⟩⟩
      simp only [put1, qok, Bool.and_eq_true, decide_eq_true_eq, List.all_append, List.length_append] at h1 ⊢
      exact ⟨⟨h1.1.1.1, by omega⟩, h1.1.2, h1.2⟩
    · cases h
  · cases h
theorem clean_ok {c : Cf} {f : Fs} (hok : okF c f = true) : okF c ⟨f.l.map cleanV, f.h⟩ = true := by
  have key : ∀ i, i ≤ (dirtyN f.l 0).length → okF c ⟨((dirtyN f.l 0).take i).foldl clS f.l, f.h⟩ = true := by
    intro i
    induction i with
    | zero => intro _; exact hok
    | succ i ih =>
      intro hi
      obtain ⟨a, ha⟩ : ∃ a, (dirtyN f.l 0)[i]? = some a := ⟨_, List.getElem?_eq_getElem (by omega)⟩
      obtain ⟨u, _, _, _, h4⟩ := fl_step ha (ih (by omega))
      exact h4
  have := key _ (Nat.le_refl _)
  rwa [List.take_length, cl_all] at this
/-- What a call that is done keeps. -/
structure CallP (c : Cf) (f : Fs) (q : List Un) (base : List (List UInt8)) (x : Ca) (P : Po) : Prop where
  s : Sound c P.f P.q base
  e : P.e = 0
  ct : ∀ p : Int, content P.f P.q base p = if x.k = 3 ∧ x.p = p then x.d else content f q base p
  rd : x.k = 2 → P.d = content f q base x.p
theorem turn_set {c : Cf} {f : Fs} {a : Nat} {u : Fr} {E : Fr → Int} {V : Fr → Fr} (hu : f.l[a]? = some u) (h : turnE c f (a : Int) E = 0) : turnF c f (a : Int) E V = ⟨f.l.set a (V u), f.h⟩ := by
  rw [turnF, if_pos h, Int.toNat_natCast, hu]
theorem call_model {c : Cf} {f : Fs} {q : List Un} {base : List (List UInt8)} {cl : Int} {x : Ca} (hs : Sound c f q base) (hk : 1 ≤ x.k ∧ x.k ≤ 6) (hcl : 0 ≤ cl ∧ cl < c.cl) (he : (callR c cl (p0 f q 0) x).2 = 0) : CallP c f q base x (callR c cl (p0 f q 0) x).1 := by
  have hap := okF_apart hs.okf
  have same : ∀ (P : Po), P.f = f → P.q = q → P.e = 0 → x.k ≠ 3 → x.k ≠ 2 → CallP c f q base x P := fun P h1 h2 h3 h4 h5 =>
    ⟨by rw [h1, h2]; exact hs, h3, fun p => by rw [h1, h2, if_neg (fun h => h4 h.1)], fun h => absurd h h5⟩
  unfold callR at he ⊢
  by_cases h5 : x.k = 5
  · rw [if_pos h5] at he ⊢
    unfold flushR at he ⊢
    split at he
    · rename_i hp
      rw [if_pos hp]
      obtain ⟨g1, g2⟩ := put_ok hp
      obtain ⟨m1, m2⟩ := model_flush hs (clean_ok hs.okf) g1
      exact ⟨by show Sound c ⟨f.l.map cleanV, f.h⟩ (putU c q (backL f.l 0)) base; rw [show putU c q (backL f.l 0) = q ++ backL f.l 0 from g2]; exact m1, rfl, fun p => by
        show content ⟨f.l.map cleanV, f.h⟩ (putU c q (backL f.l 0)) base p = _
        rw [show putU c q (backL f.l 0) = q ++ backL f.l 0 from g2, m2, if_neg (fun h => by omega)], fun h => by omega⟩
    · rename_i hp; exact absurd he hp
  · rw [if_neg h5] at he ⊢
    by_cases h6 : x.k = 6
    · rw [if_pos h6] at he ⊢
      unfold sealR at he ⊢
      split at he
      · cases he
      · rename_i h1
        split at he
        · cases he
        · rename_i h2
          rw [if_neg h1, if_neg h2]
          exact same _ rfl rfl rfl (by omega) (by omega)
    · rw [if_neg h6] at he ⊢
      by_cases hpg : x.p < 0 ∨ x.p ≥ c.p
      · rw [if_pos hpg] at he; cases he
      · rw [if_neg hpg] at he ⊢
        by_cases hno : fidx (isAt x.p) (p0 f q 0).f.l 0 < 0
        · rw [if_pos hno] at he ⊢
          by_cases h1 : x.k = 1
          · rw [if_pos h1] at he ⊢
            unfold takeR at he ⊢
            by_cases hv : vicE c f = 0
            · have hv' : vicE c (p0 f q 0).f = 0 := hv
              rw [if_pos hv'] at he ⊢
              obtain ⟨a, y, hV⟩ := vic_parts hs.okf hv
              have e1 : vicA c (p0 f q 0).f = a := hV.at_
              have e2 : (vicF c (p0 f q 0).f).l[a]? = some y := hV.get
              rw [e1, Int.toNat_natCast, e2] at he ⊢
              simp only at he ⊢
              by_cases hp : putE c (p0 f q 0).q (fetU y a x.p) = 0
              · rw [if_pos hp]
                obtain ⟨g1, g2⟩ := put_ok hp
                obtain ⟨s1, s2⟩ := model_same hs hV.same hV.ok
                obtain ⟨l1, l2, l3⟩ := load_ok hV hno (by omega) hcl
                obtain ⟨m1, m2⟩ := model_take s1 hV.get hV.k (fun i z hz hzk hzp => by
                  obtain ⟨w, hw, w1, w2, _⟩ := hV.same.back hz
                  exact fidx_no hno i w hw (w1 ▸ hzk) (w2 ▸ hzp)) l3 g1
                refine ⟨?_, rfl, fun p => ?_, fun h => by omega⟩
                · show Sound c _ (putU c q (fetU y a x.p)) base
                  rw [show putU c q (fetU y a x.p) = q ++ fetU y a x.p from g2]; exact m1
                · show content _ (putU c q (fetU y a x.p)) base p = _
                  rw [show putU c q (fetU y a x.p) = q ++ fetU y a x.p from g2, if_neg (fun h => by omega)]
                  exact (m2 p).trans (s2 p)
              · rw [if_neg hp] at he; exact absurd he hp
            · have hv' : ¬ vicE c (p0 f q 0).f = 0 := hv
              rw [if_neg hv'] at he; exact absurd he hv
          · rw [if_neg h1] at he; cases he
        · rw [if_neg hno] at he ⊢
          obtain ⟨a, u, hf, hu, hat⟩ := fidx_get (P := isAt x.p) (l := (p0 f q 0).f.l) (i := 0) (by omega)
          rw [Nat.zero_add] at hf
          rw [hf, Int.toNat_natCast, hu] at he ⊢
          simp only at he ⊢
          have hu : f.l[a]? = some u := hu
          simp only [isAt, decide_eq_true_eq] at hat
          by_cases h1 : x.k = 1
          · rw [if_pos h1] at he ⊢
            unfold hitR at he ⊢
            have he : turnE c f (a : Int) (fun u => pinE c u cl) = 0 := he
            obtain ⟨a', u', v', b1, b2, b3, b4⟩ := (stay_pin c f (a : Int) cl).good he
            have hF := turn_set (V := fun u => pinV u cl) hu he
            rw [hF] at b4
            obtain ⟨s1, s2⟩ := model_same (g := ⟨f.l.set a (pinV u cl), f.h⟩) hs (same_set hu rfl rfl rfl rfl) b4
            refine ⟨?_, rfl, fun p => ?_, fun h => by omega⟩
            · show Sound c (if turnE c f (a : Int) (fun u => pinE c u cl) = 0 then turnF c f (a : Int) (fun u => pinE c u cl) (fun u => pinV u cl) else f) q base
              rw [if_pos he, hF]; exact s1
            · show content (if turnE c f (a : Int) (fun u => pinE c u cl) = 0 then turnF c f (a : Int) (fun u => pinE c u cl) (fun u => pinV u cl) else f) q base p = _
              rw [if_pos he, hF, s2, if_neg (fun h => by omega)]
          · rw [if_neg h1] at he ⊢
            by_cases hb : u.k ≠ 2 ∨ pinN u cl = 0
            · rw [if_pos hb] at he; cases he
            · rw [if_neg hb] at he ⊢
              have hu2 : u.k = 2 := by omega
              by_cases h2 : x.k = 2
              · rw [if_pos h2]
                exact ⟨hs, rfl, fun p => by rw [if_neg (fun h => by omega)]; rfl, fun _ => (content_at hap hu hu2 hat.2).symm⟩
              · rw [if_neg h2] at he ⊢
                by_cases h3 : x.k = 3
                · rw [if_pos h3] at he ⊢
                  unfold turnR at he ⊢
                  by_cases ht : turnE c f (a : Int) (writeE c x.d) = 0
                  · have ht' : turnE c (p0 f q 0).f (a : Int) (writeE c x.d) = 0 := ht
                    rw [if_pos ht']
                    obtain ⟨a', u', v', b1, b2, b3, b4⟩ := (stay_write c f (a : Int) x.d).good ht
                    have hF := turn_set (V := writeV x.d) hu ht
                    rw [hF] at b4
                    obtain ⟨s1, s2⟩ := model_write hs hu hu2 b4
                    refine ⟨?_, rfl, fun p => ?_, fun h => absurd h h2⟩
                    · show Sound c (turnF c f (a : Int) (writeE c x.d) (writeV x.d)) q base
                      rw [hF]; exact s1
                    · show content (turnF c f (a : Int) (writeE c x.d) (writeV x.d)) q base p = _
                      rw [hF, s2]
                      by_cases hp : p = u.p
                      · rw [if_pos hp, if_pos ⟨h3, by rw [hp, hat.2]⟩]
                      · rw [if_neg hp, if_neg (fun h => hp (by rw [← h.2, hat.2]))]
                  · have ht' : ¬ turnE c (p0 f q 0).f (a : Int) (writeE c x.d) = 0 := ht
                    rw [if_neg ht'] at he; exact absurd he ht
                · rw [if_neg h3] at he ⊢
                  unfold turnR at he ⊢
                  by_cases ht : turnE c f (a : Int) (fun u => unpinE c u cl) = 0
                  · have ht' : turnE c (p0 f q 0).f (a : Int) (fun u => unpinE c u cl) = 0 := ht
                    rw [if_pos ht']
                    obtain ⟨a', u', v', b1, b2, b3, b4⟩ := (stay_unpin c f (a : Int) cl).good ht
                    have hF := turn_set (V := fun u => unpinV u cl) hu ht
                    rw [hF] at b4
                    obtain ⟨s1, s2⟩ := model_same (g := ⟨f.l.set a (unpinV u cl), f.h⟩) hs (same_set hu rfl rfl rfl rfl) b4
                    refine ⟨?_, rfl, fun p => ?_, fun h => absurd h h2⟩
                    · show Sound c (turnF c f (a : Int) (fun u => unpinE c u cl) (fun u => unpinV u cl)) q base
                      rw [hF]; exact s1
                    · show content (turnF c f (a : Int) (fun u => unpinE c u cl) (fun u => unpinV u cl)) q base p = _
                      rw [hF, s2, if_neg (fun h => h3 h.1)]
                  · have ht' : ¬ turnE c (p0 f q 0).f (a : Int) (fun u => unpinE c u cl) = 0 := ht
                    rw [if_neg ht'] at he; exact absurd he ht
end Go.Proofs.YtlmighkbeacjnaaGreatDoor

