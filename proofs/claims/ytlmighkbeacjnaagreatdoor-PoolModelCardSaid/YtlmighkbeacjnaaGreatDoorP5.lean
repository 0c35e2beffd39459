/- pool.Do, the plain law: what a call turns. -/
import Derived.Test.YtlmighkbeacjnaaGreatDoorYe
open Go Go.Lg
set_option linter.unusedSimpArgs false
set_option linter.unusedVariables false
set_option maxHeartbeats 4000000
namespace Go.Proofs.YtlmighkbeacjnaaGreatDoor
theorem content_at {f : Fs} {q : List Un} {base : List (List UInt8)} {p : Int} (ha : apart f.l) {i : Nat} {x : Fr} (hx : f.l[i]? = some x) (hk : x.k = 2) (hp : x.p = p) : content f q base p = x.d := by
  unfold content
  cases hf : f.l.find? (isReady p) with
  | none =>
    rw [List.find?_eq_none] at hf
    exact absurd (show isReady p x = true by simp [isReady, hk, hp]) (hf x (List.mem_of_getElem? hx))
  | some y =>
    have h1 := List.mem_of_find?_eq_some hf
    have h2 := List.find?_some hf
    simp only [isReady, decide_eq_true_eq] at h2
    obtain ⟨j, hj, rfl⟩ := List.getElem_of_mem h1
    have hjx : f.l[j]? = some f.l[j] := List.getElem?_eq_getElem hj
    rcases Nat.lt_trichotomy j i with h | h | h
    · exact absurd (by rw [h2.2, hp]) (ha j i _ x h hjx hx (by omega) (by omega))
    · subst h; rw [hx] at hjx; cases hjx; rfl
    · exact absurd (by rw [h2.2, hp]) (ha i j x _ h hx hjx (by omega) (by omega))
theorem content_no {f : Fs} {q : List Un} {base : List (List UInt8)} {p : Int} (h : ∀ (i : Nat) x, f.l[i]? = some x → x.k = 2 → x.p ≠ p) : content f q base p = under q base p := by
  unfold content
  cases hf : f.l.find? (isReady p) with
  | none => rfl
  | some y =>
    have h1 := List.mem_of_find?_eq_some hf
    have h2 := List.find?_some hf
    simp only [isReady, decide_eq_true_eq] at h2
    obtain ⟨j, hj, rfl⟩ := List.getElem_of_mem h1
    exact absurd h2.2 (h j _ (List.getElem?_eq_getElem hj) h2.1)
theorem ready_or {l : List Fr} (p : Int) : (∃ (i : Nat) (x : Fr), l[i]? = some x ∧ x.k = 2 ∧ x.p = p) ∨ ∀ (i : Nat) x, l[i]? = some x → x.k = 2 → x.p ≠ p := by
  by_cases h : ∃ (i : Nat) (x : Fr), l[i]? = some x ∧ x.k = 2 ∧ x.p = p
  · exact .inl h
  · exact .inr fun i x hx hk hp => h ⟨i, x, hx, hk, hp⟩
/-- The same but for pins, Refs and the hand. -/
structure SameK (l m : List Fr) : Prop where
  len : m.length = l.length
  at_ : ∀ (i : Nat) x, l[i]? = some x → ∃ y, m[i]? = some y ∧ y.k = x.k ∧ y.p = x.p ∧ y.d = x.d ∧ y.dt = x.dt
theorem SameK.back {l m : List Fr} (h : SameK l m) {i : Nat} {y : Fr} (hy : m[i]? = some y) : ∃ x, l[i]? = some x ∧ y.k = x.k ∧ y.p = x.p ∧ y.d = x.d ∧ y.dt = x.dt := by
  have hi := (List.getElem?_eq_some_iff.1 hy).1
  rw [h.len] at hi
  obtain ⟨y', e1, e2⟩ := h.at_ i _ (List.getElem?_eq_getElem hi)
  rw [hy] at e1; cases e1
  exact ⟨_, List.getElem?_eq_getElem hi, e2⟩
theorem tog_same {f g : Fs} {q : List Un} (ht : Tog f q) (hk : SameK f.l g.l) : Tog g q := by
  refine ⟨ht.wr, fun i u hu h1 => ?_, fun i y hy h1 => ?_⟩
  · obtain ⟨x, hx, x1, x2⟩ := ht.ld i u hu h1
    obtain ⟨y, hy, y1, y2, _⟩ := hk.at_ _ x hx
    exact ⟨y, hy, y1.trans x1, y2.trans x2⟩
  · obtain ⟨x, hx, x1, _⟩ := hk.back hy
    exact ht.one i x hx (x1 ▸ h1)
theorem content_same {f g : Fs} {q : List Un} {base : List (List UInt8)} {p : Int} (hf : apart f.l) (hg : apart g.l) (hk : SameK f.l g.l) : content g q base p = content f q base p := by
  rcases ready_or (l := f.l) p with ⟨i, x, hx, x1, x2⟩ | h
  · obtain ⟨y, hy, y1, y2, y3, _⟩ := hk.at_ i x hx
    rw [content_at hf hx x1 x2, content_at hg hy (y1.trans x1) (y2.trans x2), y3]
  · rw [content_no h, content_no fun i y hy hy2 hyp => by
      obtain ⟨x, hx, x1, x2, _⟩ := hk.back hy
      exact h i x hx (x1 ▸ hy2) (x2 ▸ hyp)]
/-- What turns pins and Refs alone leaves all else. -/
theorem model_same {c : Cf} {f g : Fs} {q : List Un} {base : List (List UInt8)} (hs : Sound c f q base) (hk : SameK f.l g.l) (hok : okF c g = true) : Sound c g q base ∧ ∀ p, content g q base p = content f q base p :=
  ⟨⟨hs.len, hok, hs.okq, tog_same hs.tog hk, fun i y hy hy2 hyd => by
    obtain ⟨x, hx, x1, x2, x3, x4⟩ := hk.back hy
    rw [x3, x2]; exact hs.cl i x hx (x1 ▸ hy2) (x4 ▸ hyd)⟩, fun p => content_same (okF_apart hs.okf) (okF_apart hok) hk⟩
theorem same_set {l : List Fr} {a : Nat} {u v : Fr} (hu : l[a]? = some u) (h1 : v.k = u.k) (h2 : v.p = u.p) (h3 : v.d = u.d) (h4 : v.dt = u.dt) : SameK l (l.set a v) := by
  refine ⟨List.length_set, fun i x hx => ?_⟩
  by_cases e : i = a
  · subst e; rw [hu] at hx; cases hx
    exact ⟨v, set_at hu, h1, h2, h3, h4⟩
  · exact ⟨x, by rw [List.getElem?_set_ne (by omega)]; exact hx, rfl, rfl, rfl, rfl⟩
/-- A page is written. -/
theorem model_write {c : Cf} {f : Fs} {q : List Un} {base : List (List UInt8)} {a : Nat} {u : Fr} {data : List UInt8} (hs : Sound c f q base) (hu : f.l[a]? = some u) (hk : u.k = 2) (hok : okF c ⟨f.l.set a (writeV data u), f.h⟩ = true) :
    Sound c ⟨f.l.set a (writeV data u), f.h⟩ q base ∧ ∀ p, content ⟨f.l.set a (writeV data u), f.h⟩ q base p = if p = u.p then data else content f q base p := by
  have hap := okF_apart hs.okf
  have hap' := okF_apart hok
  have hat : (f.l.set a (writeV data u))[a]? = some (writeV data u) := set_at hu
  have hne : ∀ (i : Nat) y, i ≠ a → ((f.l.set a (writeV data u))[i]? = some y ↔ f.l[i]? = some y) := fun i y h => by rw [List.getElem?_set_ne (by omega)]
  refine ⟨⟨hs.len, hok, hs.okq, ⟨hs.tog.wr, fun i v hv h1 => ?_, fun i y hy h1 => ?_⟩, fun i y hy hy2 hyd => ?_⟩, fun p => ?_⟩
  · obtain ⟨x, hx, x1, x2⟩ := hs.tog.ld i v hv h1
    have hi : v.f.toNat ≠ a := fun h => by rw [h, hu] at hx; cases hx; omega
    exact ⟨x, (hne _ _ hi).2 hx, x1, x2⟩
  · have hy : (f.l.set a (writeV data u))[i]? = some y := hy
    have hi : i ≠ a := fun h => by subst h; rw [hat] at hy; cases hy; exact absurd h1 (by show ¬ u.k = 1; omega)
    exact hs.tog.one i y ((hne _ _ hi).1 hy) h1
  · have hy : (f.l.set a (writeV data u))[i]? = some y := hy
    have hi : i ≠ a := fun h => by subst h; rw [hat] at hy; cases hy; cases hyd
    exact hs.cl i y ((hne _ _ hi).1 hy) hy2 hyd
  · by_cases hp : p = u.p
    · rw [if_pos hp]
      exact content_at (f := ⟨f.l.set a (writeV data u), f.h⟩) hap' hat hk hp.symm
    · rw [if_neg hp]
      rcases ready_or (l := f.l) p with ⟨i, x, hx, x1, x2⟩ | h
      · have hi : i ≠ a := fun h => by subst h; rw [hu] at hx; cases hx; exact hp x2.symm
        rw [content_at hap hx x1 x2]
        exact content_at (f := ⟨f.l.set a (writeV data u), f.h⟩) hap' ((hne _ _ hi).2 hx) x1 x2
      · rw [content_no h]
        refine content_no fun i y hy hy2 hyp => ?_
        have hy : (f.l.set a (writeV data u))[i]? = some y := hy
        by_cases hi : i = a
        · subst hi; rw [hat] at hy; cases hy; exact hp hyp.symm
        · exact h i y ((hne _ _ hi).1 hy) hy2 hyp
theorem underL_append (p : Int) : ∀ (q r : List Un) (b : List UInt8), underL (q ++ r) b p = underL r (underL q b p) p
  | [], r, b => rfl
  | u :: q, r, b => by rw [List.cons_append, underL, underL, underL_append p q r]
theorem under_append (q r : List Un) (base : List (List UInt8)) (p : Int) : under (q ++ r) base p = underL r (under q base p) p := underL_append p q r _
theorem underL_hit {p : Int} {d : List UInt8} : ∀ {r : List Un} {b : List UInt8}, (∃ u, u ∈ r ∧ u.k = 2 ∧ u.p = p) → (∀ u, u ∈ r → u.k = 2 → u.p = p → u.d = d) → underL r b p = d
  | [], b, ⟨u, hu, _⟩, _ => by cases hu
  | v :: r, b, h, hd => by
    rw [underL]
    by_cases hr : ∃ u, u ∈ r ∧ u.k = 2 ∧ u.p = p
    · exact underL_hit hr fun u hu => hd u (List.mem_cons_of_mem _ hu)
    · obtain ⟨u, hu, u1, u2⟩ := h
      rcases List.mem_cons.1 hu with rfl | hu
      · rw [if_pos ⟨u1, u2⟩, underL_skip fun w hw hh => hr ⟨w, hw, hh.1, hh.2⟩]
        exact hd u List.mem_cons_self u1 u2
      · exact absurd ⟨u, hu, u1, u2⟩ hr
theorem may_dirty {c : Cf} {x : Fr} (h : mayF c x = true) (hd : x.dt = true) : x.k = 2 ∧ 0 ≤ x.p ∧ x.p < c.p ∧ (x.d.length : Int) = c.z := by
  unfold mayF at h
  simp only [Bool.and_eq_true, decide_eq_true_eq] at h
  have h2 := h.2
  by_cases h0 : x.k = 0
  · simp [h0, hd] at h2
  · by_cases h1 : x.k = 1
    · simp [h1, hd] at h2
    · by_cases h3 : x.k = 2
      · simp [h3] at h2; exact ⟨h3, h2.1.1, h2.1.2, h2.2⟩
      · simp [h0, h1, h3] at h2
theorem okF_may {c : Cf} {f : Fs} (h : okF c f = true) {i : Nat} {x : Fr} (hx : f.l[i]? = some x) : mayF c x = true := (okL_iff.1 (okF_parts h).2.2.2.2).1 x (List.mem_of_getElem? hx)
theorem apart_ne {l : List Fr} (h : apart l) {i j : Nat} {x y : Fr} (hij : i ≠ j) (hx : l[i]? = some x) (hy : l[j]? = some y) (h1 : x.k ≠ 0) (h2 : y.k ≠ 0) : x.p ≠ y.p := by
  rcases Nat.lt_or_ge i j with h3 | h3
  · exact h i j x y h3 hx hy h1 h2
  · exact fun e => h j i y x (by omega) hy hx h2 h1 e.symm
/-- The units of a fetch that takes a frame: what was written there goes back first. -/
def fetU (x : Fr) (a p : Int) : List Un := (if x.dt = true then [⟨2, x.p, a, x.d⟩] else []) ++ [⟨1, p, a, []⟩]
theorem fetU_mem {x : Fr} {a p : Int} {u : Un} (h : u ∈ fetU x a p) : (x.dt = true ∧ u = ⟨2, x.p, a, x.d⟩) ∨ u = ⟨1, p, a, []⟩ := by
  unfold fetU at h
  rcases List.mem_append.1 h with h | h
  · split at h
    · rename_i hd; exact .inl ⟨hd, List.mem_singleton.1 h⟩
    · cases h
  · exact .inr (List.mem_singleton.1 h)
/-- A frame is taken. -/
theorem model_take {c : Cf} {g : Fs} {q : List Un} {base : List (List UInt8)} {a : Nat} {x : Fr} {p cl : Int} (hs : Sound c g q base) (hx : g.l[a]? = some x) (hx1 : x.k ≠ 1) (hno : ∀ (i : Nat) y, g.l[i]? = some y → y.k ≠ 0 → y.p ≠ p)
    (hok : okF c ⟨g.l.set a (loadV c p cl x), g.h⟩ = true) (hq : qok c (q ++ fetU x a p) = true) :
    Sound c ⟨g.l.set a (loadV c p cl x), g.h⟩ (q ++ fetU x a p) base ∧ ∀ p', content ⟨g.l.set a (loadV c p cl x), g.h⟩ (q ++ fetU x a p) base p' = content g q base p' := by
  have hap := okF_apart hs.okf
  have hap' := okF_apart hok
  have hat : (g.l.set a (loadV c p cl x))[a]? = some (loadV c p cl x) := set_at hx
  have hne : ∀ (i : Nat) y, i ≠ a → ((g.l.set a (loadV c p cl x))[i]? = some y ↔ g.l[i]? = some y) := fun i y h => by rw [List.getElem?_set_ne (by omega)]
  have hxm := okF_may hs.okf hx
  have hld : ∀ (i : Nat) u, q[i]? = some u → u.k = 1 → u.f.toNat ≠ a ∧ u.p ≠ x.p ∨ (u.f.toNat ≠ a ∧ x.k = 0) := fun i u hu h1 => by
    obtain ⟨y, hy, y1, y2⟩ := hs.tog.ld i u hu h1
    have hfa : u.f.toNat ≠ a := fun h => by rw [h, hx] at hy; cases hy; exact hx1 y1
    by_cases h0 : x.k = 0
    · exact .inr ⟨hfa, h0⟩
    · exact .inl ⟨hfa, y2 ▸ apart_ne hap hfa hy hx (by omega) h0⟩
  have hqm : ∀ u, u ∈ q → 0 ≤ u.f := fun u hu => by
    have h := hs.okq
    simp only [qok, Bool.and_eq_true, List.all_eq_true] at h
    exact (mayU_parts (h.2 u hu)).2.1
  have hun : ∀ p', (x.dt = true → p' ≠ x.p) → under (q ++ fetU x a p) base p' = under q base p' := fun p' h => by
    rw [under_append]
    refine underL_skip fun u hu hh => ?_
    rcases fetU_mem hu with ⟨hd, rfl⟩ | rfl
    · exact h hd hh.2.symm
    · exact absurd hh.1 (by simp)
  refine ⟨⟨hs.len, hok, hq, ⟨fun i j u v hij hu hv h1 h2 => ?_, fun i u hu h1 => ?_, fun i y hy h1 => ?_⟩, fun i y hy hy2 hyd => ?_⟩, fun p' => ?_⟩
  · by_cases hj : j < q.length
    · rw [List.getElem?_append_left hj] at hv
      rw [List.getElem?_append_left (by omega)] at hu
      exact hs.tog.wr i j u v hij hu hv h1 h2
    · rw [List.getElem?_append_right (by omega)] at hv
      rcases fetU_mem (List.mem_of_getElem? hv) with ⟨hd, rfl⟩ | rfl
      · have h20 := (may_dirty hxm hd).1
        by_cases hi : i < q.length
        · rw [List.getElem?_append_left hi] at hu
          rcases hld i u hu h1 with h | h
          · exact h.2
          · omega
        · rw [List.getElem?_append_right (by omega)] at hu
          exfalso
          unfold fetU at hu hv
          rw [if_pos hd] at hu hv
          have : j - q.length < 2 := by have := (List.getElem?_eq_some_iff.1 hv).1; simpa using this
          have e1 : i - q.length = 0 := by omega
          rw [e1] at hu
          simp at hu
          rw [← hu] at h1; exact absurd h1 (by simp)
      · exact absurd h2 (by simp)
  · by_cases hi : i < q.length
    · rw [List.getElem?_append_left hi] at hu
      obtain ⟨y, hy, y1, y2⟩ := hs.tog.ld i u hu h1
      have hfa : u.f.toNat ≠ a := fun h => by rw [h, hx] at hy; cases hy; exact hx1 y1
      exact ⟨y, (hne _ _ hfa).2 hy, y1, y2⟩
    · rw [List.getElem?_append_right (by omega)] at hu
      rcases fetU_mem (List.mem_of_getElem? hu) with ⟨hd, rfl⟩ | rfl
      · exact absurd h1 (by simp)
      · exact ⟨loadV c p cl x, by show (g.l.set a _)[((a : Int)).toNat]? = _; rw [Int.toNat_natCast]; exact hat, rfl, rfl⟩
  · have hy : (g.l.set a (loadV c p cl x))[i]? = some y := hy
    rw [List.filter_append, List.length_append]
    have hlast : ((fetU x a p).filter fun u : Un => decide (u.k = 1 ∧ u.f = (i : Int))).length = if i = a then 1 else 0 := by
      unfold fetU
      split <;> by_cases e : i = a
      · subst e; simp
      · rw [if_neg e]; simp; omega
      · subst e; simp
      · rw [if_neg e]; simp; omega
    rw [hlast]
    by_cases e : i = a
    · subst e
      rw [if_pos rfl]
      have : (q.filter fun u : Un => decide (u.k = 1 ∧ u.f = (i : Int))) = [] := by
        rw [List.filter_eq_nil_iff]
        intro u hu h
        simp only [decide_eq_true_eq] at h
        obtain ⟨k, hk, rfl⟩ := List.getElem_of_mem hu
        rcases hld k _ (List.getElem?_eq_getElem hk) h.1 with h3 | h3 <;> exact h3.1 (by rw [h.2]; simp)
      rw [this]; rfl
    · rw [if_neg e]
      exact hs.tog.one i y ((hne _ _ e).1 hy) h1
  · have hy : (g.l.set a (loadV c p cl x))[i]? = some y := hy
    have hi : i ≠ a := fun h => by subst h; rw [hat] at hy; cases hy; exact absurd hy2 (by simp [loadV])
    have hy' := (hne _ _ hi).1 hy
    rw [hun y.p fun hd => apart_ne hap hi hy' hx (by omega) (by have := (may_dirty hxm hd).1; omega)]
    exact hs.cl i y hy' hy2 hyd
  · rcases ready_or (l := g.l) p' with ⟨i, y, hy, y1, y2⟩ | h
    · rw [content_at hap hy y1 y2]
      by_cases hi : i = a
      · subst hi
        rw [hx] at hy; cases hy
        rw [content_no (f := ⟨g.l.set i (loadV c p cl x), g.h⟩) fun j z hz hz2 hzp => by
          have hz : (g.l.set i (loadV c p cl x))[j]? = some z := hz
          by_cases hj : j = i
          · subst hj; rw [hat] at hz; cases hz; exact absurd hz2 (by simp [loadV])
          · exact apart_ne hap hj ((hne _ _ hj).1 hz) hx (by omega) (by omega) (hzp.trans y2.symm)]
        cases hd : x.dt with
        | false =>
          rw [hun p' (fun h => by rw [hd] at h; cases h), ← y2]
          exact (hs.cl i x hx y1 hd).symm
        | true =>
          rw [under_append]
          refine underL_hit ⟨⟨2, x.p, i, x.d⟩, by unfold fetU; rw [if_pos hd]; simp, rfl, y2⟩ fun u hu hu2 _ => ?_
          rcases fetU_mem hu with ⟨_, rfl⟩ | rfl
          · rfl
          · exact absurd hu2 (by simp)
      · exact content_at (f := ⟨g.l.set a (loadV c p cl x), g.h⟩) hap' ((hne _ _ hi).2 hy) y1 y2
    · rw [content_no h, content_no (f := ⟨g.l.set a (loadV c p cl x), g.h⟩) fun j z hz hz2 hzp => by
        have hz : (g.l.set a (loadV c p cl x))[j]? = some z := hz
        by_cases hj : j = a
        · subst hj; rw [hat] at hz; cases hz; exact absurd hz2 (by simp [loadV])
        · exact h j z ((hne _ _ hj).1 hz) hz2 hzp]
      exact hun p' fun hd e => h a x hx (may_dirty hxm hd).1 e.symm
/-- The units that write all back. -/
def backL : List Fr → Nat → List Un
  | [], _ => []
  | x :: l, i => if x.dt = true then ⟨2, x.p, i, x.d⟩ :: backL l (i + 1) else backL l (i + 1)
theorem backL_mem {u : Un} : ∀ {l : List Fr} {i : Nat}, u ∈ backL l i ↔ ∃ (j : Nat) (x : Fr), l[j]? = some x ∧ x.dt = true ∧ u = ⟨2, x.p, ((i + j : Nat) : Int), x.d⟩
  | [], i => by simp [backL]
  | y :: l, i => by
    have ih := backL_mem (u := u) (l := l) (i := i + 1)
    rw [backL]
    constructor
    · intro h
      split at h
      · rename_i hd
        rcases List.mem_cons.1 h with rfl | h
        · exact ⟨0, y, rfl, hd, rfl⟩
        · obtain ⟨j, x, h1, h2, h3⟩ := ih.1 h
          exact ⟨j + 1, x, by simpa using h1, h2, by rw [h3]; congr 2; omega⟩
      · obtain ⟨j, x, h1, h2, h3⟩ := ih.1 h
        exact ⟨j + 1, x, by simpa using h1, h2, by rw [h3]; congr 2; omega⟩
    · rintro ⟨j, x, h1, h2, h3⟩
      cases j with
      | zero =>
        simp at h1; subst h1
        rw [if_pos h2]; rw [h3]; exact List.mem_cons_self
      | succ j =>
        have := ih.2 ⟨j, x, by simpa using h1, h2, by rw [h3]; congr 2; omega⟩
        split
        · exact List.mem_cons_of_mem _ this
        · exact this
/-- All is written back. -/
theorem model_flush {c : Cf} {f : Fs} {q : List Un} {base : List (List UInt8)} (hs : Sound c f q base) (hok : okF c ⟨f.l.map cleanV, f.h⟩ = true) (hq : qok c (q ++ backL f.l 0) = true) :
    Sound c ⟨f.l.map cleanV, f.h⟩ (q ++ backL f.l 0) base ∧ ∀ p, content ⟨f.l.map cleanV, f.h⟩ (q ++ backL f.l 0) base p = content f q base p := by
  have hap := okF_apart hs.okf
  have hap' := okF_apart hok
  have hget : ∀ (i : Nat) x, f.l[i]? = some x → (f.l.map cleanV)[i]? = some (cleanV x) := fun i x h => by rw [List.getElem?_map, h]; rfl
  have hback : ∀ (i : Nat) y, (f.l.map cleanV)[i]? = some y → ∃ x, f.l[i]? = some x ∧ y = cleanV x := fun i y h => by
    rw [List.getElem?_map, Option.map_eq_some_iff] at h
    obtain ⟨x, h1, h2⟩ := h
    exact ⟨x, h1, h2.symm⟩
  have hun : ∀ (p : Int), (∀ (i : Nat) x, f.l[i]? = some x → x.dt = true → x.p ≠ p) → under (q ++ backL f.l 0) base p = under q base p := fun p h => by
    rw [under_append]
    refine underL_skip fun u hu hh => ?_
    obtain ⟨j, x, h1, h2, rfl⟩ := backL_mem.1 hu
    exact h j x h1 h2 hh.2
  have hhit : ∀ (i : Nat) x, f.l[i]? = some x → x.dt = true → under (q ++ backL f.l 0) base x.p = x.d := fun i x hx hd => by
    rw [under_append]
    refine underL_hit ⟨_, backL_mem.2 ⟨i, x, hx, hd, rfl⟩, rfl, rfl⟩ fun u hu hu2 hup => ?_
    obtain ⟨j, y, h1, h2, rfl⟩ := backL_mem.1 hu
    by_cases e : j = i
    · subst e; rw [hx] at h1; cases h1; rfl
    · exact absurd hup (apart_ne hap e h1 hx (by have := (may_dirty (okF_may hs.okf h1) h2).1; omega) (by have := (may_dirty (okF_may hs.okf hx) hd).1; omega))
  have hcl : ∀ (i : Nat) x, f.l[i]? = some x → x.k = 2 → x.d = under (q ++ backL f.l 0) base x.p := fun i x hx hk => by
    cases hd : x.dt with
    | true => exact (hhit i x hx hd).symm
    | false =>
      rw [hun x.p fun j y hy hyd => ?_]
      · exact hs.cl i x hx hk hd
      · have hji : j ≠ i := fun e => by subst e; rw [hx] at hy; cases hy; rw [hd] at hyd; cases hyd
        exact apart_ne hap hji hy hx (by have := (may_dirty (okF_may hs.okf hy) hyd).1; omega) (by omega)
  refine ⟨⟨hs.len, hok, hq, ⟨fun i j u v hij hu hv h1 h2 => ?_, fun i u hu h1 => ?_, fun i y hy h1 => ?_⟩, fun i y hy hy2 hyd => ?_⟩, fun p => ?_⟩
  · have hiq : i < q.length := by
      rcases Nat.lt_or_ge i q.length with h | h
      · exact h
      · rw [List.getElem?_append_right h] at hu
        obtain ⟨_, _, _, _, rfl⟩ := backL_mem.1 (List.mem_of_getElem? hu)
        exact absurd h1 (by simp)
    rw [List.getElem?_append_left hiq] at hu
    by_cases hj : j < q.length
    · rw [List.getElem?_append_left hj] at hv
      exact hs.tog.wr i j u v hij hu hv h1 h2
    · rw [List.getElem?_append_right (by omega)] at hv
      obtain ⟨k, x, hx, hd, rfl⟩ := backL_mem.1 (List.mem_of_getElem? hv)
      obtain ⟨y, hy, y1, y2⟩ := hs.tog.ld i u hu h1
      have hk2 := (may_dirty (okF_may hs.okf hx) hd).1
      have hne : u.f.toNat ≠ k := fun e => by rw [e, hx] at hy; cases hy; omega
      exact y2 ▸ apart_ne hap hne hy hx (by omega) (by omega)
  · have hiq : i < q.length := by
      rcases Nat.lt_or_ge i q.length with h | h
      · exact h
      · rw [List.getElem?_append_right h] at hu
        obtain ⟨_, _, _, _, rfl⟩ := backL_mem.1 (List.mem_of_getElem? hu)
        exact absurd h1 (by simp)
    rw [List.getElem?_append_left hiq] at hu
    obtain ⟨y, hy, y1, y2⟩ := hs.tog.ld i u hu h1
    exact ⟨cleanV y, hget _ _ hy, y1, y2⟩
  · obtain ⟨x, hx, rfl⟩ := hback i y hy
    have h0 : ((backL f.l 0).filter fun u : Un => decide (u.k = 1 ∧ u.f = (i : Int))) = [] := by
      rw [List.filter_eq_nil_iff]
      intro u hu h
      obtain ⟨_, _, _, _, rfl⟩ := backL_mem.1 hu
      simp at h
    rw [List.filter_append, h0, List.append_nil]
    exact hs.tog.one i x hx h1
  · obtain ⟨x, hx, rfl⟩ := hback i y hy
    exact hcl i x hx hy2
  · rcases ready_or (l := f.l) p with ⟨i, x, hx, x1, x2⟩ | h
    · rw [content_at hap hx x1 x2]
      exact content_at (f := ⟨f.l.map cleanV, f.h⟩) (x := cleanV x) hap' (hget i x hx) x1 x2
    · rw [content_no h, content_no (f := ⟨f.l.map cleanV, f.h⟩) fun i y hy hy2 hyp => by
        obtain ⟨x, hx, rfl⟩ := hback i y hy
        exact h i x hx hy2 hyp]
      exact hun p fun i x hx hd => h i x hx (may_dirty (okF_may hs.okf hx) hd).1
end Go.Proofs.YtlmighkbeacjnaaGreatDoor

