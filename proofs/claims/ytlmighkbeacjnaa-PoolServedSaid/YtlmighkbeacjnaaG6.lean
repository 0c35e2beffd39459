/- What may be stays so. Plain. -/
import Derived.Test.YtlmighkbeacjnaaG5
open Go Go.Lg
set_option linter.unusedSimpArgs false
set_option linter.unusedVariables false
set_option maxHeartbeats 4000000
set_option maxRecDepth 20000
namespace Go.Proofs.Ytlmighkbeacjnaa
/-- No two frames hold one page. -/
def apart (l : List Fr) : Prop := ∀ (i j : Nat) x y, i < j → l[i]? = some x → l[j]? = some y → x.k ≠ 0 → y.k ≠ 0 → x.p ≠ y.p
theorem okL_iff {c : Cf} : ∀ {l : List Fr} {s : List Int}, okL c s l = true ↔ (∀ x, x ∈ l → mayF c x = true) ∧ (∀ x, x ∈ l → x.k ≠ 0 → x.p ∉ s) ∧ apart l
  | [], s => by
    refine ⟨fun _ => ⟨fun x h => (by cases h), fun x h => (by cases h), fun i j x y _ h => by simp at h⟩, fun _ => rfl⟩
  | x :: l, s => by
    simp only [okL, Bool.and_eq_true]
    by_cases hk : x.k = 0
    · have hk' : (x.k == 0) = true := by simpa using hk
      rw [hk', cond_true, okL_iff (l := l) (s := s)]
      constructor
      · rintro ⟨h1, h2, h3, h4⟩
        refine ⟨fun y hy => ?_, fun y hy hn => ?_, fun i j u v hij hu hv hku hkv => ?_⟩
        · rcases List.mem_cons.1 hy with rfl | hy
          · exact h1
          · exact h2 y hy
        · rcases List.mem_cons.1 hy with rfl | hy
          · exact absurd hk hn
          · exact h3 y hy hn
        · cases j with
          | zero => omega
          | succ j =>
            cases i with
            | zero => simp at hu; subst hu; exact absurd hk hku
            | succ i => exact h4 i j u v (by omega) (by simpa using hu) (by simpa using hv) hku hkv
      · rintro ⟨h1, h2, h3⟩
        exact ⟨h1 x (by simp), fun y hy => h1 y (by simp [hy]), fun y hy => h2 y (by simp [hy]), fun i j u v hij hu hv => h3 (i + 1) (j + 1) u v (by omega) (by simpa using hu) (by simpa using hv)⟩
    · have hk' : (x.k == 0) = false := by simpa using hk
      rw [hk', cond_false]
      simp only [Bool.and_eq_true]
      rw [okL_iff (l := l) (s := s ++ [x.p])]
      constructor
      · rintro ⟨h1, h5, h2, h3, h4⟩
        have h5 : x.p ∉ s := by simpa using h5
        refine ⟨fun y hy => ?_, fun y hy hn => ?_, fun i j u v hij hu hv hku hkv => ?_⟩
        · rcases List.mem_cons.1 hy with rfl | hy
          · exact h1
          · exact h2 y hy
        · rcases List.mem_cons.1 hy with rfl | hy
          · exact h5
          · exact fun h => h3 y hy hn (by simp [h])
        · cases j with
          | zero => omega
          | succ j =>
            cases i with
            | zero =>
              simp at hu; subst hu
              intro e
              exact h3 v (List.mem_of_getElem? (by simpa using hv)) hkv (by simp [e])
            | succ i => exact h4 i j u v (by omega) (by simpa using hu) (by simpa using hv) hku hkv
      · rintro ⟨h1, h2, h3⟩
        refine ⟨h1 x (by simp), by simpa using h2 x (by simp) hk, fun y hy => h1 y (by simp [hy]), fun y hy hn h => ?_, fun i j u v hij hu hv => h3 (i + 1) (j + 1) u v (by omega) (by simpa using hu) (by simpa using hv)⟩
        rw [List.mem_append] at h
        rcases h with h | h
        · exact h2 y (by simp [hy]) hn h
        · obtain ⟨j, hj⟩ := List.mem_iff_getElem?.1 hy
          exact h3 0 (j + 1) x y (by omega) rfl (by simpa using hj) hk hn (Eq.symm (a := y.p) (b := x.p) (by simpa using h))
/-- Frames stay apart where one is turned, if its page is in no other one. -/
theorem apart_set {l : List Fr} {a : Nat} {u v : Fr} (h : apart l) (hu : l[a]? = some u) (hv : v.k ≠ 0 → ∀ (j : Nat) y, j ≠ a → l[j]? = some y → y.k ≠ 0 → y.p ≠ v.p) : apart (l.set a v) := by
  intro i j x y hij hx hy hkx hky
  rw [List.getElem?_set] at hx hy
  have hal := (List.getElem?_eq_some_iff.1 hu).1
  by_cases ei : a = i
  · subst ei
    rw [if_pos rfl, if_pos hal] at hx; cases hx
    rw [if_neg (by omega)] at hy
    exact fun e => hv hkx j y (by omega) hy hky e.symm
  · rw [if_neg ei] at hx
    by_cases ej : a = j
    · subst ej
      rw [if_pos rfl, if_pos hal] at hy; cases hy
      exact hv hky i x (by omega) hx hkx
    · rw [if_neg ej] at hy
      exact h i j x y hij hx hy hkx hky
theorem apart_same {l : List Fr} {a : Nat} {u v : Fr} (h : apart l) (hu : l[a]? = some u) (hp : v.p = u.p) (hk : v.k ≠ 0 → u.k ≠ 0) : apart (l.set a v) :=
  apart_set h hu fun hkv j y hj hy hky => by
    rw [hp]
    rcases Nat.lt_or_ge j a with h1 | h1
    · exact h j a y u h1 hy hu hky (hk hkv)
    · exact fun e => h a j u y (by omega) hu hy (hk hkv) hky e.symm
/-- What a law of frames asks of an answer. -/
structure StayP (c : Cf) (f : Fs) (at_ : Int) (F : Fs) (e : Int) : Prop where
  bad : e ≠ 0 → F.l = []
  good : e = 0 → ∃ (a : Nat) (u v : Fr), at_ = a ∧ f.l[a]? = some u ∧ F = ⟨f.l.set a v, f.h⟩ ∧ okF c F = true
theorem set_back {l : List Fr} {a : Nat} {u v : Fr} (hu : l[a]? = some u) : (l.set a v).set a u = l := by rw [List.set_set, set_id hu]
theorem stay {c : Cf} {f : Fs} {at_ : Int} {E : Fr → Int} {V : Fr → Fr} (h : okF c f = true → ∀ (a : Nat) u, at_ = a → f.l[a]? = some u → mayF c u = true → E u = 0 → mayF c (V u) = true ∧ apart (f.l.set a (V u))) : StayP c f at_ (turnF c f at_ E V) (turnE c f at_ E) := by
  refine ⟨fun he => by rw [turnF, if_neg he], fun he => ?_⟩
  have he' := he
  unfold turnE at he
  split at he
  · rename_i hok
    split at he
    · cases he
    · rename_i hr
      obtain ⟨a, rfl⟩ : ∃ a : Nat, at_ = a := ⟨at_.toNat, by omega⟩
      rw [Int.toNat_natCast] at he
      split at he
      · rename_i u hu
        obtain ⟨k1, k2, k3, k4, k5⟩ := okF_parts hok
        obtain ⟨o1, o2, o3⟩ := okL_iff.1 k5
        obtain ⟨m1, m2⟩ := h hok a u rfl hu (o1 u (List.mem_of_getElem? hu)) he
        have hF : turnF c f (a : Int) E V = ⟨f.l.set a (V u), f.h⟩ := by rw [turnF, if_pos he', Int.toNat_natCast, hu]
        refine ⟨a, u, V u, rfl, hu, hF, ?_⟩
        rw [hF]
        have hokL : okL c [] (f.l.set a (V u)) = true := by
          refine okL_iff.2 ⟨fun x hx => ?_, fun x _ _ h => (by cases h), m2⟩
          rcases List.mem_or_eq_of_mem_set hx with hx | rfl
          · exact o1 x hx
          · exact m1
        simp only [okF, okS, List.length_set, k1, k2, hokL, Bool.and_true, Bool.true_and, decide_true]
        simp; omega
      · cases he
  · cases he
theorem okF_apart {c : Cf} {f : Fs} (h : okF c f = true) : apart f.l := (okL_iff.1 (okF_parts h).2.2.2.2).2.2
theorem stay_fill (c : Cf) (f : Fs) (at_ : Int) (data : List UInt8) : StayP c f at_ (turnF c f at_ (fillE c data) (fillV data)) (turnE c f at_ (fillE c data)) := by
  refine stay fun hok a u hat hu hm hE => ?_
  unfold fillE at hE
  split at hE
  · rename_i h
    refine ⟨?_, apart_same (okF_apart hok) hu rfl (fun _ => by rw [h.1]; decide)⟩
    simp [mayF, fillV, wildP, pinned, h.1, h.2] at hm ⊢
    simp_all
  · cases hE
theorem stay_write (c : Cf) (f : Fs) (at_ : Int) (data : List UInt8) : StayP c f at_ (turnF c f at_ (writeE c data) (writeV data)) (turnE c f at_ (writeE c data)) := by
  refine stay fun hok a u hat hu hm hE => ?_
  unfold writeE at hE
  split at hE
  · rename_i h
    refine ⟨?_, apart_same (okF_apart hok) hu rfl (fun _ => by rw [h.1]; decide)⟩
    simp [mayF, writeV, wildP, pinned, h.1, h.2] at hm ⊢
    simp_all
  · cases hE
theorem stay_clean (c : Cf) (f : Fs) (at_ : Int) : StayP c f at_ (turnF c f at_ cleanE cleanV) (turnE c f at_ cleanE) := by
  refine stay fun hok a u hat hu hm hE => ?_
  unfold cleanE at hE
  split at hE
  · rename_i h
    by_cases k0 : u.k = 0
    · simp [mayF, k0, h] at hm
    · by_cases k1 : u.k = 1
      · simp [mayF, k1, h] at hm
      · by_cases k2 : u.k = 2
        · refine ⟨?_, apart_same (okF_apart hok) hu rfl (fun _ => k0)⟩
          simp [mayF, cleanV, wildP, pinned, k2] at hm ⊢
          simp_all
        · simp [mayF, k0, k1, k2] at hm
  · cases hE
theorem pins_wild {ns : List Int} {k : Nat} {p : Int} (h : (ns.any fun n => decide (n < 0 ∨ n > 8)) = false) (hp : 0 ≤ p ∧ p ≤ 8) : ((ns.set k p).any fun n => decide (n < 0 ∨ n > 8)) = false := by
  rw [List.any_eq_false] at h ⊢
  intro x hx
  rcases List.mem_or_eq_of_mem_set hx with hx | rfl
  · exact h x hx
  · simp; omega
theorem pinned_set {u : Fr} {k : Nat} {p : Int} (hk : k < u.pins.length) (hp : 0 < p) (v : Fr) (hv : v.pins = u.pins.set k p) : pinned v = true := by
  rw [pinned, hv, List.any_eq_true]
  exact ⟨p, List.mem_of_getElem? (List.getElem?_set_self hk), by simpa using hp⟩
theorem pinN_le {c : Cf} {u : Fr} {cl : Int} (hm : mayF c u = true) (h0 : ¬ cl < 0) (h1 : ¬ cl ≥ c.cl) : cl.toNat < u.pins.length ∧ 0 ≤ pinN u cl ∧ pinN u cl ≤ 8 := by
  obtain ⟨m1, m2⟩ := may_pins hm
  have hk : cl.toNat < u.pins.length := by omega
  have hpk : u.pins[cl.toNat]? = some u.pins[cl.toNat] := List.getElem?_eq_getElem hk
  have hN : pinN u cl = u.pins[cl.toNat] := by simp [pinN, hpk]
  have := (List.any_eq_false.1 m2) _ (List.mem_of_getElem? hpk)
  simp at this
  exact ⟨hk, by omega, by omega⟩
theorem stay_pin (c : Cf) (f : Fs) (at_ cl : Int) : StayP c f at_ (turnF c f at_ (fun u => pinE c u cl) (fun u => pinV u cl)) (turnE c f at_ (fun u => pinE c u cl)) := by
  refine stay fun hok a u hat hu hm hE => ?_
  have hE : pinE c u cl = 0 := hE
  unfold pinE at hE
  split at hE
  · cases hE
  · rename_i h
    split at hE
    · cases hE
    · rename_i h8
      have h0 : ¬ cl < 0 := fun e => h (.inl e)
      have h1 : ¬ cl ≥ c.cl := fun e => h (.inr (.inl e))
      have h2 : u.k ≠ 0 := fun e => h (.inr (.inr e))
      obtain ⟨p1, p2, p3⟩ := pinN_le hm h0 h1
      obtain ⟨m1, m2⟩ := may_pins hm
      refine ⟨?_, apart_same (okF_apart hok) hu rfl (fun _ => h2)⟩
      have hw : wildP (pinV u cl) = false := pins_wild m2 ⟨by omega, by omega⟩
      have hpn : pinned (pinV u cl) = true := pinned_set p1 (by omega) _ rfl
      have hlen : ((pinV u cl).pins.length : Int) = c.cl := by rw [pinV, List.length_set]; exact m1
      by_cases k1 : u.k = 1
      · have kk : (pinV u cl).k = 1 := k1
        simp [mayF, kk, hw, hpn, hlen]
        simp [mayF, k1] at hm
        exact ⟨⟨hm.2.1.1.1, hm.2.1.1.2⟩, hm.2.1.2⟩
      · by_cases k2 : u.k = 2
        · have kk : (pinV u cl).k = 2 := k2
          simp [mayF, kk, hw, hlen]
          simp [mayF, k2] at hm
          exact hm.2
        · simp [mayF, h2, k1, k2] at hm
theorem stay_unpin (c : Cf) (f : Fs) (at_ cl : Int) : StayP c f at_ (turnF c f at_ (fun u => unpinE c u cl) (fun u => unpinV u cl)) (turnE c f at_ (fun u => unpinE c u cl)) := by
  refine stay fun hok a u hat hu hm hE => ?_
  have hE : unpinE c u cl = 0 := hE
  unfold unpinE at hE
  split at hE
  · cases hE
  · rename_i h
    split at hE
    · cases hE
    · rename_i h8
      have h0 : ¬ cl < 0 := fun e => h (.inl e)
      have h1 : ¬ cl ≥ c.cl := fun e => h (.inr e)
      have k2 : u.k = 2 := Classical.byContradiction fun e => h8 (.inl e)
      have hn0 : pinN u cl ≠ 0 := fun e => h8 (.inr e)
      obtain ⟨p1, p2, p3⟩ := pinN_le hm h0 h1
      obtain ⟨m1, m2⟩ := may_pins hm
      refine ⟨?_, apart_same (okF_apart hok) hu rfl (fun _ => by rw [k2]; decide)⟩
      have hw : wildP (unpinV u cl) = false := pins_wild m2 ⟨by omega, by omega⟩
      have hlen : ((unpinV u cl).pins.length : Int) = c.cl := by rw [unpinV, List.length_set]; exact m1
      have kk : (unpinV u cl).k = 2 := k2
      simp [mayF, kk, hw, hlen]
      simp [mayF, k2] at hm
      exact hm.2
theorem fidx_lt {α : Type} {P : α → Bool} : ∀ {l : List α} {i : Nat}, fidx P l i < 0 → ∀ x, x ∈ l → P x = false
  | [], _, _, x, hx => by cases hx
  | y :: l, i, h, x, hx => by
    unfold fidx at h
    split at h
    · omega
    · rename_i hy
      rcases List.mem_cons.1 hx with rfl | hx
      · simpa using hy
      · exact fidx_lt h x hx
theorem fidx_of {α : Type} {P : α → Bool} : ∀ {l : List α} {i a : Nat} {x : α}, l[a]? = some x → P x = true → (∀ (j : Nat) y, j < a → l[j]? = some y → P y = false) → fidx P l i = ((i + a : Nat) : Int)
  | [], _, a, x, h, _, _ => by simp at h
  | y :: l, i, 0, x, h, hp, _ => by
    simp at h; subst h
    rw [fidx, if_pos hp]; rfl
  | y :: l, i, a + 1, x, h, hp, hn => by
    rw [fidx, if_neg (by rw [hn 0 y (by omega) rfl]; simp), fidx_of (i := i + 1) (a := a) (by simpa using h) hp (fun j z hj hz => hn (j + 1) z (by omega) (by simpa using hz))]
    congr 1; omega
theorem fidx_get {α : Type} {P : α → Bool} : ∀ {l : List α} {i : Nat}, 0 ≤ fidx P l i → ∃ (a : Nat) (x : α), fidx P l i = ((i + a : Nat) : Int) ∧ l[a]? = some x ∧ P x = true
  | [], i, h => by simp [fidx] at h
  | y :: l, i, h => by
    unfold fidx at h ⊢
    split at h
    · rename_i hp; exact ⟨0, y, by rw [if_pos hp]; rfl, rfl, hp⟩
    · rename_i hp
      obtain ⟨a, x, h1, h2, h3⟩ := fidx_get h
      exact ⟨a + 1, x, by rw [if_neg hp, h1]; congr 1; omega, by simpa using h2, h3⟩
theorem stay_load (c : Cf) (f : Fs) (at_ page cl : Int) : StayP c f at_ (turnF c f at_ (fun u => loadE c f at_ page cl u) (fun u => loadV c page cl u)) (turnE c f at_ (fun u => loadE c f at_ page cl u)) := by
  refine stay fun hok a u hat hu hm hE => ?_
  have hE : loadE c f at_ page cl u = 0 := hE
  unfold loadE at hE
  split at hE
  · cases hE
  · rename_i h
    simp only [not_or] at h
    obtain ⟨h1, h2, h3, h4, h5, h6, h7⟩ := h
    have hg := good_cl (okF_parts hok).1
    have hk : cl.toNat < c.cl.toNat := by omega
    constructor
    · have hw : wildP (loadV c page cl u) = false := pins_wild (by rw [List.any_eq_false]; intro x hx; rw [List.eq_of_mem_replicate hx]; simp) ⟨by decide, by decide⟩
      have hp : pinned (loadV c page cl u) = true := by
        rw [pinned, List.any_eq_true]
        exact ⟨1, List.mem_of_getElem? (i := cl.toNat) (by rw [loadV, List.getElem?_set_self (by rw [List.length_replicate]; exact hk)]), by simp⟩
      have hlen : ((loadV c page cl u).pins.length : Int) = c.cl := by rw [loadV, List.length_set, List.length_replicate]; omega
      have kk : (loadV c page cl u).k = 1 := rfl
      have kp : (loadV c page cl u).p = page := rfl
      have kd : (loadV c page cl u).d = [] := rfl
      have kt : (loadV c page cl u).dt = false := rfl
      simp [mayF, kk, kp, kd, kt, hw, hp, hlen]
      omega
    · refine apart_set (okF_apart hok) hu fun _ j y hj hy hky e => ?_
      have e : y.p = page := e
      have hya : isAt page y = true := by simp [isAt, hky, e]
      rcases Int.lt_or_le (fidx (isAt page) f.l 0) 0 with hlt | hge
      · rw [fidx_lt hlt y (List.mem_of_getElem? hy)] at hya; cases hya
      · obtain ⟨b, x, b1, b2, b3⟩ := fidx_get hge
        have hba : b = a := by
          have : fidx (isAt page) f.l 0 = at_ := Classical.byContradiction fun h => h7 ⟨hge, h⟩
          omega
        subst hba
        simp only [isAt, decide_eq_true_eq] at b3
        have hap := okF_apart hok
        rcases Nat.lt_or_ge j b with h | h
        · exact hap j b y x h hy b2 hky b3.1 (by rw [e, b3.2])
        · exact hap b j x y (by omega) b2 hy b3.1 hky (by rw [e, b3.2])
/-- Behind a load that goes well, the page's frame is the one at the place. -/
theorem load_find {c : Cf} {f : Fs} {at_ page cl : Int} (h : turnE c f at_ (fun u => loadE c f at_ page cl u) = 0) : okF c (turnF c f at_ (fun u => loadE c f at_ page cl u) (fun u => loadV c page cl u)) = true ∧ fidx (isAt page) (turnF c f at_ (fun u => loadE c f at_ page cl u) (fun u => loadV c page cl u)).l 0 = at_ ∧ 0 ≤ at_ := by
  obtain ⟨a, u, v, hat, hu, hF, hok⟩ := (stay_load c f at_ page cl).good h
  refine ⟨hok, ?_, by omega⟩
  have hv : turnF c f at_ (fun u => loadE c f at_ page cl u) (fun u => loadV c page cl u) = ⟨f.l.set a (loadV c page cl u), f.h⟩ := by
    rw [turnF, if_pos h, hat, Int.toNat_natCast, hu]
  rw [hv] at hok ⊢
  have hget : (f.l.set a (loadV c page cl u))[a]? = some (loadV c page cl u) := set_at hu
  have hat' : isAt page (loadV c page cl u) = true := by simp [isAt, loadV]
  have := fidx_of (i := 0) hget hat' (fun j y hj hy => ?_)
  · rw [this, hat]; simp
  · cases hy' : isAt page y with
    | false => rfl
    | true =>
      simp only [isAt, decide_eq_true_eq] at hy'
      exact absurd hy'.2 (fun e => okF_apart hok j a y _ hj hy hget hy'.1 (show (1 : Int) ≠ 0 by decide) e)
end Go.Proofs.Ytlmighkbeacjnaa
