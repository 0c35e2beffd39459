/- Regions that draw their order, with several changes of own memory: one walk for each order that the changes may come in. -/
import Derived.Test.YtlmighkbeacjnaaGreatDoorLm4
import Derived.Laws.BytesString

set_option linter.unusedVariables false
set_option linter.unusedSimpArgs false
set_option linter.unusedSectionVars false
namespace Go.Lg
open Go

/-- Which stages (how many changes have been) an operation may come at. -/
def allowed (all : List Oper) (E : List Nat) (i s : Nat) : Bool := ((E.take s).all fun e => !must all 3 i e) && ((E.drop s).all fun e => !must all 3 e i)
/-- The orders that the changes may come in. -/
def ordersR (R : Nat → Nat → Bool) : Nat → List Nat → List (List Nat)
  | 0, _ => [[]]
  | f + 1, E => match E with
    | [] => [[]]
    | E => (E.filter fun e => E.all fun d => Nat.beq d e || !R d e).flatMap fun e => (ordersR R f (E.filter fun d => !Nat.beq d e)).map (e :: ·)
def orders (all : List Oper) : Nat → List Nat → List (List Nat) := ordersR (must all 3)
def prs (all : List Oper) (L : List Nat) : List (Nat × Oper) := L.filterMap fun i => (all[i]?).map fun o => (i, o)
def edgeOk (n : Nat) : List Nat → List (Nat × Oper) → Bool
  | seen, [] => (List.range n).all seen.contains
  | seen, (i, o) :: r => !seen.contains i && (o.after.toList.all fun e => !Region.binds .any e || seen.contains e.on) && edgeOk n (i :: seen) r

section lin
variable {all : List Oper}
theorem prs_get {L : List Nat} {p i : Nat} {o : Oper} (h : (prs all L)[p]? = some (i, o)) : all[i]? = some o := by
  have hm := List.mem_of_getElem? h
  simp only [prs, List.mem_filterMap, Option.map_eq_some_iff] at hm
  obtain ⟨j, _, o', ho, he⟩ := hm
  cases he; exact ho
theorem edgeOk_all {n : Nat} : ∀ {pr : List (Nat × Oper)} {seen : List Nat}, edgeOk n seen pr = true → ∀ i, i < n → i ∈ seen ∨ ∃ (p : Nat) (o : Oper), pr[p]? = some (i, o)
  | [], seen, h, i, hi => by
    simp only [edgeOk, List.all_eq_true, List.mem_range] at h
    exact .inl (by simpa using h i hi)
  | (j, o) :: r, seen, h, i, hi => by
    simp only [edgeOk, Bool.and_eq_true] at h
    rcases edgeOk_all h.2 i hi with h1 | ⟨p, o', h1⟩
    · rcases List.mem_cons.1 h1 with rfl | h1
      · exact .inr ⟨0, o, rfl⟩
      · exact .inl h1
    · exact .inr ⟨p + 1, o', by simpa using h1⟩
theorem edgeOk_edge {n : Nat} : ∀ {pr : List (Nat × Oper)} {seen : List Nat}, edgeOk n seen pr = true → ∀ (p i : Nat) (o : Oper), pr[p]? = some (i, o) → i ∉ seen ∧ (∀ (q : Nat) (o' : Oper), q < p → pr[q]? ≠ some (i, o')) ∧ ∀ e, e ∈ o.after.toList → Region.binds .any e = true → e.on ∈ seen ∨ ∃ (q : Nat) (o' : Oper), q < p ∧ pr[q]? = some (e.on, o')
  | [], _, _, p, i, o, hp => by simp at hp
  | (j, o1) :: r, seen, h, 0, i, o, hp => by
    simp only [edgeOk, Bool.and_eq_true] at h
    simp at hp
    obtain ⟨rfl, rfl⟩ := hp
    refine ⟨by simpa using h.1.1, fun q o' hq => by omega, fun e he hb => ?_⟩
    have := List.all_eq_true.1 h.1.2 e he
    rw [hb] at this
    simp only [Bool.not_true, Bool.false_or] at this
    exact .inl (by simpa using this)
  | (j, o1) :: r, seen, h, p + 1, i, o, hp => by
    simp only [edgeOk, Bool.and_eq_true] at h
    obtain ⟨h1, h2, h3⟩ := edgeOk_edge h.2 p i o (by simpa using hp)
    simp only [List.mem_cons, not_or] at h1
    refine ⟨h1.2, fun q o' hq => ?_, fun e he hb => ?_⟩
    · cases q with
      | zero => simp only [List.getElem?_cons_zero]; intro e; cases e; exact h1.1 rfl
      | succ q => simpa using h2 q o' (by omega)
    · rcases h3 e he hb with h4 | ⟨q, o', hq, h4⟩
      · rcases List.mem_cons.1 h4 with h5 | h5
        · exact .inr ⟨0, o1, by omega, by rw [h5]; rfl⟩
        · exact .inl h5
      · exact .inr ⟨q + 1, o', by omega, by simpa using h4⟩
theorem pr_inj {n : Nat} {pr : List (Nat × Oper)} (h : edgeOk n [] pr = true) {p q i : Nat} {o o' : Oper} (hp : pr[p]? = some (i, o)) (hq : pr[q]? = some (i, o')) : p = q := by
  rcases Nat.lt_trichotomy p q with h1 | h1 | h1
  · exact absurd hp ((edgeOk_edge h q i o' hq).2.1 p o h1)
  · exact h1
  · exact absurd hq ((edgeOk_edge h p i o hp).2.1 q o' h1)
theorem must_pos {n : Nat} {L : List Nat} (h : edgeOk n [] (prs all L) = true) : ∀ (f i j : Nat), must all f i j = true → ∀ {p q : Nat} {o o' : Oper}, (prs all L)[p]? = some (i, o) → (prs all L)[q]? = some (j, o') → p < q
  | 0, _, _, hm, _, _, _, _, _, _ => by cases hm
  | f + 1, i, j, hm, p, q, o, o', hp, hq => by
    unfold must at hm
    rw [prs_get hq] at hm
    simp only at hm
    rw [List.any_eq_true] at hm
    obtain ⟨e, he, hm⟩ := hm
    rw [Bool.and_eq_true, Bool.or_eq_true] at hm
    rcases (edgeOk_edge h q j o' hq).2.2 e he hm.1 with h1 | ⟨q', o1, hlt, h1⟩
    · cases h1
    · rcases hm.2 with h2 | h2
      · have := Nat.eq_of_beq_eq_true h2
        rw [this] at h1
        have := pr_inj h hp h1; omega
      · have := must_pos h f i e.on h2 hp h1; omega
end lin

section
variable {P : Program} {B : Fb → Prop} {N m : Nat} {Q : AEx → St → Prop}
/-- The walk, for one order 'E' of the changes: the memories so far (the last one first), what is yet owed. -/
inductive WM (P : Program) (B : Fb → Prop) (N m : Nat) (all : List Oper) (E : List Nat) (Q : AEx → St → Prop) (df : List Nat) : Nat → List (Heap × Nat) → List (Nat × (Heap → Prop)) → List (Nat × Oper) → (Nat → AV) → Heap → Nat → Prop
  | nil {s : Nat} {G : List (Heap × Nat)} {ob : List (Nat × (Heap → Prop))} {tm : Nat → AV} {h : Heap} {n : Nat} (hs : s = E.length) (hob : ∀ p, p ∈ ob → ∀ s g, ((h, n) :: G).reverse[s]? = some g → allowed all E p.1 s = true → p.2 g.1) (hq : Q .normal ⟨tm, h, n, df⟩) : WM P B N m all E Q df s G ob [] tm h n
  | op {s : Nat} {G : List (Heap × Nat)} {ob : List (Nat × (Heap → Prop))} {i : Nat} {o : Oper} {rest : List (Nat × Oper)} {tm : Nat → AV} {h : Heap} {n : Nat} {x : AV} {C : Heap → Prop} (hi : E.contains i = false) (hc : Calm P B N m all (fun h _ => C h) o tm df x) (hr : WM P B N m all E Q df s G ((i, C) :: ob) rest (putT tm o.dst x) h n) : WM P B N m all E Q df s G ob ((i, o) :: rest) tm h n
  | opT {s : Nat} {G : List (Heap × Nat)} {ob : List (Nat × (Heap → Prop))} {i : Nat} {o : Oper} {rest : List (Nat × Oper)} {tm : Nat → AV} {h : Heap} {n : Nat} {x : AV} (hi : E.contains i = false) (hc : Calm P B N m all (fun _ _ => True) o tm df x) (hr : WM P B N m all E Q df s G ob rest (putT tm o.dst x) h n) : WM P B N m all E Q df s G ob ((i, o) :: rest) tm h n
  | opO {s : Nat} {G : List (Heap × Nat)} {ob : List (Nat × (Heap → Prop))} {i : Nat} {o : Oper} {rest : List (Nat × Oper)} {tm : Nat → AV} {h : Heap} {n : Nat} {x : AV} (hi : E.contains i = false) (ho : ((List.range (E.length + 1)).all fun j => !allowed all E i j || Nat.beq j s) = true) (hc : Calm P B N m all (fun h' n' => h' = h ∧ n' = n) o tm df x) (hr : WM P B N m all E Q df s G ob rest (putT tm o.dst x) h n) : WM P B N m all E Q df s G ob ((i, o) :: rest) tm h n
  | eff {s : Nat} {G : List (Heap × Nat)} {ob : List (Nat × (Heap → Prop))} {i : Nat} {o : Oper} {rest : List (Nat × Oper)} {tm : Nat → AV} {h h' : Heap} {n n' : Nat} {x : AV} (he : E[s]? = some i) (hc : Eff P B N m all o tm h n h' n' df x) (hr : WM P B N m all E Q df (s + 1) ((h, n) :: G) ob rest (putT tm o.dst x) h' n') : WM P B N m all E Q df s G ob ((i, o) :: rest) tm h n
  | pan {s : Nat} {G : List (Heap × Nat)} {ob : List (Nat × (Heap → Prop))} {i : Nat} {o : Oper} {rest : List (Nat × Oper)} {tm : Nat → AV} {h : Heap} {n : Nat} (he : E[s]? = some i) (hp : ∀ tm', (∀ t, t ∈ rd all o → tm' t = tm t) → (∀ t, (∀ o', o' ∈ all → o'.dst ≠ some t) → tm' t = tm t) → ∀ i', all[i']? = some o → ∀ l, WO P B N m all.toArray (i' :: l) Q ⟨tm', h, n, df⟩)
      (hrest : ∀ p, p ∈ rest → must all 3 i p.1 = true ∧ ∀ s', s' ≤ s → E[s']? ≠ some p.1) (hob : ∀ p, p ∈ ob → ∀ s g, ((h, n) :: G).reverse[s]? = some g → allowed all E p.1 s = true → p.2 g.1) : WM P B N m all E Q df s G ob ((i, o) :: rest) tm h n

/-- What the walk tells of each operation; 'z': how many changes there are (all, or up to one that panics). -/
structure TM (P : Program) (B : Fb → Prop) (N m : Nat) (all : List Oper) (E : List Nat) (Q : AEx → St → Prop) (df : List Nat) (pr : List (Nat × Oper)) (tm0 : Nat → AV) (x : Nat → AV) (F : List (Heap × Nat)) (z k : Nat) : Prop where
  ops : ∀ p i o, k ≤ p → pr[p]? = some (i, o) → E.contains i = false → (∀ e, E[z]? = some e → must all 3 e i = false) → Calm P B N m all (fun h n => ∃ s, allowed all E i s = true ∧ F[s]? = some (h, n)) o (tmf (pr.map (·.2)) x tm0 Tr p) df (x p)
  effs : ∀ p i o s, k ≤ p → s < z → pr[p]? = some (i, o) → E[s]? = some i → ∃ h n h' n', F[s]? = some (h, n) ∧ F[s + 1]? = some (h', n') ∧ Eff P B N m all o (tmf (pr.map (·.2)) x tm0 Tr p) h n h' n' df (x p)
  fin : z = E.length → ∃ h n, F[E.length]? = some (h, n) ∧ Q .normal ⟨tmf (pr.map (·.2)) x tm0 Tr pr.length, h, n, df⟩
  pan : ∀ p i o, k ≤ p → pr[p]? = some (i, o) → E[z]? = some i → ∃ h n, F[z]? = some (h, n) ∧ ∀ tm', (∀ t, t ∈ rd all o → tm' t = tmf (pr.map (·.2)) x tm0 Tr p t) → (∀ t, (∀ o', o' ∈ all → o'.dst ≠ some t) → tm' t = tmf (pr.map (·.2)) x tm0 Tr p t) → ∀ i', all[i']? = some o → ∀ l, WO P B N m all.toArray (i' :: l) Q ⟨tm', h, n, df⟩
  len : F.length = z + 1
  le : z ≤ E.length

theorem nodup_get {E : List Nat} (hE : E.Nodup) {s t i : Nat} (h1 : E[s]? = some i) (h2 : E[t]? = some i) : s = t := by
  obtain ⟨l1, e1⟩ := List.getElem?_eq_some_iff.1 h1
  obtain ⟨l2, e2⟩ := List.getElem?_eq_some_iff.1 h2
  exact (List.getElem_inj (h₀ := l1) (h₁ := l2) hE).1 (e1.trans e2.symm)

theorem WM.told {all : List Oper} {E : List Nat} (hE : E.Nodup) {df : List Nat} {s : Nat} {G : List (Heap × Nat)} {ob : List (Nat × (Heap → Prop))} {rest : List (Nat × Oper)} {tm : Nat → AV} {h : Heap} {n : Nat} (hw : WM P B N m all E Q df s G ob rest tm h n) :
    ∀ (pr pre : List (Nat × Oper)) (tm0 y : Nat → AV), pr = pre ++ rest → G.length = s → tm = tmf (pr.map (·.2)) y tm0 Tr pre.length →
    ∃ x F z, s ≤ z ∧ (∀ p, p < pre.length → x p = y p) ∧ (∃ F', F = ((h, n) :: G).reverse ++ F') ∧ (∀ p, p ∈ ob → ∀ s g, F[s]? = some g → allowed all E p.1 s = true → p.2 g.1) ∧ TM P B N m all E Q df pr tm0 x F z pre.length := by
  induction hw with
  | @nil s G ob tm h n hs hob hq =>
    intro pr pre tm0 y hp hG ht
    refine ⟨y, ((h, n) :: G).reverse, E.length, by omega, fun _ _ => rfl, ⟨[], by simp⟩, hob, ⟨fun p i o hk hp' => ?_, fun p i o s hk _ hp' => ?_, fun _ => ⟨h, n, ?_, ?_⟩, fun p i o hk hp' => ?_, ?_, Nat.le_refl _⟩⟩
    · have := (List.getElem?_eq_some_iff.1 hp').1; rw [hp] at this; simp at this; omega
    · have := (List.getElem?_eq_some_iff.1 hp').1; rw [hp] at this; simp at this; omega
    · rw [List.reverse_cons, List.getElem?_append_right (by simp; omega)]
      simp [hG, hs]
    · have : pr.length = pre.length := by rw [hp]; simp
      rw [this, ← ht]; exact hq
    · have := (List.getElem?_eq_some_iff.1 hp').1; rw [hp] at this; simp at this; omega
    · simp [hG, hs]
  | @op s G ob i o rest tm h n x C hi hc hr ih =>
    intro pr pre tm0 y hp hG ht
    have ho : (pr.map (·.2))[pre.length]? = some o := by rw [hp]; simp
    obtain ⟨x', F, z, hz, h1, h2, h3, h4⟩ := ih pr (pre ++ [(i, o)]) tm0 (upd y pre.length x) (by rw [hp]; simp) hG (by
      rw [List.length_append, List.length_singleton, tmf_tr ho, upd_same, ht]
      rw [tmf_vals (x := upd y pre.length x) (y := y) pre.length fun i hi => upd_ne _ _ (by omega)])
    have hx : x' pre.length = x := by rw [h1 pre.length (by simp), upd_same]
    have hxy : ∀ i, i < pre.length → x' i = y i := fun i hi => by rw [h1 i (by simp; omega), upd_ne _ _ (by omega)]
    refine ⟨x', F, z, hz, hxy, h2, fun p hpo => h3 p (List.mem_cons_of_mem _ hpo), ⟨fun p i' o' hk hp' hi' hm' => ?_, fun p i' o' s' hk hsz hp' he => ?_, h4.fin, fun p i' o' hk hp' he => ?_, h4.len, h4.le⟩⟩
    · by_cases ep : p = pre.length
      · subst ep
        rw [hp] at hp'; simp at hp'
        obtain ⟨rfl, rfl⟩ := hp'
        rw [hx, tmf_vals _ hxy, ← ht]
        exact fun tm' h' n' ⟨s', ha, hf⟩ => hc tm' h' n' (h3 (i, C) (by simp) s' _ hf ha)
      · exact h4.ops p i' o' (by simp; omega) hp' hi' hm'
    · by_cases ep : p = pre.length
      · subst ep
        rw [hp] at hp'; simp at hp'
        obtain ⟨rfl, rfl⟩ := hp'
        have := List.mem_of_getElem? he
        simp at hi; exact absurd this hi
      · exact h4.effs p i' o' s' (by simp; omega) hsz hp' he
    · by_cases ep : p = pre.length
      · subst ep
        rw [hp] at hp'; simp at hp'
        obtain ⟨rfl, rfl⟩ := hp'
        have := List.mem_of_getElem? he
        simp at hi; exact absurd this hi
      · exact h4.pan p i' o' (by simp; omega) hp' he
  | @opT s G ob i o rest tm h n x hi hc hr ih =>
    intro pr pre tm0 y hp hG ht
    have ho : (pr.map (·.2))[pre.length]? = some o := by rw [hp]; simp
    obtain ⟨x', F, z, hz, h1, h2, h3, h4⟩ := ih pr (pre ++ [(i, o)]) tm0 (upd y pre.length x) (by rw [hp]; simp) hG (by
      rw [List.length_append, List.length_singleton, tmf_tr ho, upd_same, ht]
      rw [tmf_vals (x := upd y pre.length x) (y := y) pre.length fun i hi => upd_ne _ _ (by omega)])
    have hx : x' pre.length = x := by rw [h1 pre.length (by simp), upd_same]
    have hxy : ∀ i, i < pre.length → x' i = y i := fun i hi => by rw [h1 i (by simp; omega), upd_ne _ _ (by omega)]
    refine ⟨x', F, z, hz, hxy, h2, h3, ⟨fun p i' o' hk hp' hi' hm' => ?_, fun p i' o' s' hk hsz hp' he => ?_, h4.fin, fun p i' o' hk hp' he => ?_, h4.len, h4.le⟩⟩
    · by_cases ep : p = pre.length
      · subst ep
        rw [hp] at hp'; simp at hp'
        obtain ⟨rfl, rfl⟩ := hp'
        rw [hx, tmf_vals _ hxy, ← ht]
        exact fun tm' h' n' _ => hc tm' h' n' trivial
      · exact h4.ops p i' o' (by simp; omega) hp' hi' hm'
    · by_cases ep : p = pre.length
      · subst ep
        rw [hp] at hp'; simp at hp'
        obtain ⟨rfl, rfl⟩ := hp'
        have := List.mem_of_getElem? he
        simp at hi; exact absurd this hi
      · exact h4.effs p i' o' s' (by simp; omega) hsz hp' he
    · by_cases ep : p = pre.length
      · subst ep
        rw [hp] at hp'; simp at hp'
        obtain ⟨rfl, rfl⟩ := hp'
        have := List.mem_of_getElem? he
        simp at hi; exact absurd this hi
      · exact h4.pan p i' o' (by simp; omega) hp' he
  | @opO s G ob i o rest tm h n x hi hone hc hr ih =>
    intro pr pre tm0 y hp hG ht
    have ho : (pr.map (·.2))[pre.length]? = some o := by rw [hp]; simp
    obtain ⟨x', F, z, hz, h1, h2, h3, h4⟩ := ih pr (pre ++ [(i, o)]) tm0 (upd y pre.length x) (by rw [hp]; simp) hG (by
      rw [List.length_append, List.length_singleton, tmf_tr ho, upd_same, ht]
      rw [tmf_vals (x := upd y pre.length x) (y := y) pre.length fun i hi => upd_ne _ _ (by omega)])
    have hx : x' pre.length = x := by rw [h1 pre.length (by simp), upd_same]
    have hxy : ∀ i, i < pre.length → x' i = y i := fun i hi => by rw [h1 i (by simp; omega), upd_ne _ _ (by omega)]
    refine ⟨x', F, z, hz, hxy, h2, h3, ⟨fun p i' o' hk hp' hi' hm' => ?_, fun p i' o' s' hk hsz hp' he => ?_, h4.fin, fun p i' o' hk hp' he => ?_, h4.len, h4.le⟩⟩
    · by_cases ep : p = pre.length
      · subst ep
        rw [hp] at hp'; simp at hp'
        obtain ⟨rfl, rfl⟩ := hp'
        rw [hx, tmf_vals _ hxy, ← ht]
        refine fun tm' h' n' ⟨s', ha, hf⟩ => hc tm' h' n' ?_
        obtain ⟨F', hF⟩ := h2
        have hlt : s' < E.length + 1 := by have h5 := (List.getElem?_eq_some_iff.1 hf).1; rw [h4.len] at h5; have := h4.le; omega
        have h6 := List.all_eq_true.1 hone s' (List.mem_range.2 hlt)
        rw [ha] at h6
        simp only [Bool.not_true, Bool.false_or] at h6
        have : s' = s := Nat.eq_of_beq_eq_true h6
        rw [this, hF, List.reverse_cons, List.append_assoc, List.getElem?_append_right (by simp; omega)] at hf
        simp [hG] at hf
        exact ⟨hf.1.symm, hf.2.symm⟩
      · exact h4.ops p i' o' (by simp; omega) hp' hi' hm'
    · by_cases ep : p = pre.length
      · subst ep
        rw [hp] at hp'; simp at hp'
        obtain ⟨rfl, rfl⟩ := hp'
        have := List.mem_of_getElem? he
        simp at hi; exact absurd this hi
      · exact h4.effs p i' o' s' (by simp; omega) hsz hp' he
    · by_cases ep : p = pre.length
      · subst ep
        rw [hp] at hp'; simp at hp'
        obtain ⟨rfl, rfl⟩ := hp'
        have := List.mem_of_getElem? he
        simp at hi; exact absurd this hi
      · exact h4.pan p i' o' (by simp; omega) hp' he
  | @eff s G ob i o rest tm h h' n n' x he hc hr ih =>
    intro pr pre tm0 y hp hG ht
    have ho : (pr.map (·.2))[pre.length]? = some o := by rw [hp]; simp
    obtain ⟨x', F, z, hz, h1, ⟨F', h2⟩, h3, h4⟩ := ih pr (pre ++ [(i, o)]) tm0 (upd y pre.length x) (by rw [hp]; simp) (by simp [hG]) (by
      rw [List.length_append, List.length_singleton, tmf_tr ho, upd_same, ht]
      rw [tmf_vals (x := upd y pre.length x) (y := y) pre.length fun i hi => upd_ne _ _ (by omega)])
    have hx : x' pre.length = x := by rw [h1 pre.length (by simp), upd_same]
    have hxy : ∀ i, i < pre.length → x' i = y i := fun i hi => by rw [h1 i (by simp; omega), upd_ne _ _ (by omega)]
    refine ⟨x', F, z, by omega, hxy, ⟨[(h', n')] ++ F', by rw [h2]; simp⟩, h3, ⟨fun p i' o' hk hp' hi' hm' => ?_, fun p i' o' s' hk hsz hp' he' => ?_, h4.fin, fun p i' o' hk hp' he' => ?_, h4.len, h4.le⟩⟩
    · by_cases ep : p = pre.length
      · subst ep
        rw [hp] at hp'; simp at hp'
        obtain ⟨rfl, rfl⟩ := hp'
        have := List.mem_of_getElem? he
        simp at hi'; exact absurd this hi'
      · exact h4.ops p i' o' (by simp; omega) hp' hi' hm'
    · by_cases ep : p = pre.length
      · subst ep
        rw [hp] at hp'; simp at hp'
        obtain ⟨rfl, rfl⟩ := hp'
        have es : s' = s := nodup_get hE he' he
        subst es
        refine ⟨h, n, h', n', ?_, ?_, ?_⟩
        · rw [h2, List.reverse_cons, List.reverse_cons, List.append_assoc, List.append_assoc, List.getElem?_append_right (by simp; omega)]
          simp [hG]
        · rw [h2, List.reverse_cons, List.reverse_cons, List.append_assoc, List.append_assoc, List.getElem?_append_right (by simp; omega)]
          simp [hG]
        · rw [hx, tmf_vals _ hxy, ← ht]; exact hc
      · exact h4.effs p i' o' s' (by simp; omega) hsz hp' he'
    · by_cases ep : p = pre.length
      · subst ep
        rw [hp] at hp'; simp at hp'
        obtain ⟨rfl, rfl⟩ := hp'
        have := nodup_get hE he' he
        omega
      · exact h4.pan p i' o' (by simp; omega) hp' he'
  | @pan s G ob i o rest tm h n he hpn hrest hob =>
    intro pr pre tm0 y hp hG ht
    have hsl := (List.getElem?_eq_some_iff.1 he).1
    have hFs : ((h, n) :: G).reverse[s]? = some (h, n) := by
      rw [List.reverse_cons, List.getElem?_append_right (by simp; omega)]
      simp [hG]
    refine ⟨y, ((h, n) :: G).reverse, s, Nat.le_refl _, fun _ _ => rfl, ⟨[], by simp⟩, hob, ⟨fun p i' o' hk hp' hi' hm' => ?_, fun p i' o' s' hk hsz hp' he' => ?_, fun hh => by omega, fun p i' o' hk hp' he' => ?_, by simp [hG], Nat.le_of_lt hsl⟩⟩
    · by_cases ep : p = pre.length
      · subst ep
        rw [hp] at hp'; simp at hp'
        obtain ⟨rfl, rfl⟩ := hp'
        have := List.mem_of_getElem? he
        simp at hi'; exact absurd this hi'
      · have hmem : (i', o') ∈ rest := by
          rw [hp, List.getElem?_append_right (by omega)] at hp'
          have h0 : p - pre.length = (p - pre.length - 1) + 1 := by omega
          rw [h0, List.getElem?_cons_succ] at hp'
          exact List.mem_of_getElem? hp'
        have := (hrest _ hmem).1
        rw [hm' i he] at this; cases this
    · have hp2 : p = pre.length ∨ p ≠ pre.length := by omega
      rcases hp2 with rfl | ep
      · rw [hp] at hp'; simp at hp'
        obtain ⟨rfl, rfl⟩ := hp'
        have := nodup_get hE he' he
        omega
      · have hmem : (i', o') ∈ rest := by
          rw [hp, List.getElem?_append_right (by omega)] at hp'
          have h0 : p - pre.length = (p - pre.length - 1) + 1 := by omega
          rw [h0, List.getElem?_cons_succ] at hp'
          exact List.mem_of_getElem? hp'
        exact absurd he' ((hrest _ hmem).2 s' (Nat.le_of_lt hsz))
    · have hp2 : p = pre.length ∨ p ≠ pre.length := by omega
      rcases hp2 with rfl | ep
      · rw [hp] at hp'; simp at hp'
        obtain ⟨rfl, rfl⟩ := hp'
        exact ⟨h, n, hFs, by rw [← ht]; exact hpn⟩
      · have hmem : (i', o') ∈ rest := by
          rw [hp, List.getElem?_append_right (by omega)] at hp'
          have h0 : p - pre.length = (p - pre.length - 1) + 1 := by omega
          rw [h0, List.getElem?_cons_succ] at hp'
          exact List.mem_of_getElem? hp'
        exact absurd he' ((hrest _ hmem).2 s (Nat.le_refl _))

/-! the run -/
section run
variable {all : List Oper} {E : List Nat} {df : List Nat} {tm0 x : Nat → AV} {L : List Nat} {F : List (Heap × Nat)}
/-- A set of operations, by their places. -/
def Dp (pr : List (Nat × Oper)) (D : Nat → Prop) : Nat → Prop := fun p => ∃ i o, pr[p]? = some (i, o) ∧ D i
theorem dp_at {pr : List (Nat × Oper)} {D : Nat → Prop} {p i : Nat} {o : Oper} (h : pr[p]? = some (i, o)) : Dp pr D p ↔ D i :=
  ⟨fun ⟨j, o', h1, h2⟩ => by rw [h] at h1; cases h1; exact h2, fun h2 => ⟨i, o, h, h2⟩⟩
theorem mreads_ok (hd : drawOk all = true) (hl : edgeOk all.length [] (prs all L) = true) {D : Nat → Prop} (hdn : Down all D) {i p : Nat} {o : Oper} (hp : (prs all L)[p]? = some (i, o)) (hi : ¬ D i) (he : ∀ e, e ∈ o.after.toList → Region.binds .any e = true → D e.on) :
    ∀ t, t ∈ rd all o → tmf ((prs all L).map (·.2)) x tm0 (Dp (prs all L) D) (prs all L).length t = tmf ((prs all L).map (·.2)) x tm0 Tr p t := by
  intro t ht
  have ho := prs_get hp
  have hlt : p < (prs all L).length := (List.getElem?_eq_some_iff.1 hp).1
  have hat : ∀ {k : Nat} {q : Oper}, ((prs all L).map (·.2))[k]? = some q → ∃ j, (prs all L)[k]? = some (j, q) := fun {k q} hk => by
    rw [List.getElem?_map, Option.map_eq_some_iff] at hk
    obtain ⟨⟨j, q'⟩, h1, h2⟩ := hk
    cases h2; exact ⟨j, h1⟩
  have h1 : tmf ((prs all L).map (·.2)) x tm0 (Dp (prs all L) D) (prs all L).length t = tmf ((prs all L).map (·.2)) x tm0 (Dp (prs all L) D) p t := tmf_tail (fun k q hk hq hD hdst => by
    obtain ⟨j, hj⟩ := hat hq
    rw [dp_at hj] at hD
    rcases drawOk_spec hd ho (prs_get hj) (.inr ht) hdst with h1 | h1 | h1
    · subst h1; exact hi hD
    · have := must_pos hl 3 _ _ h1 hj hp; omega
    · exact hi (must_in hdn 3 i j h1 (hdn j hD))) _ (by omega)
  rw [h1]
  exact tmf_congr p fun k q hk hq hdst => ⟨fun _ => trivial, fun _ => by
    obtain ⟨j, hj⟩ := hat hq
    rw [dp_at hj]
    rcases drawOk_spec hd ho (prs_get hj) (.inr ht) hdst with h1 | h1 | h1
    · subst h1; have := pr_inj hl hj hp; omega
    · exact must_in hdn 3 j i h1 (fun o' ho' => by rw [ho] at ho'; cases ho'; exact he)
    · have := must_pos hl 3 _ _ h1 hp hj; omega⟩
theorem mwrites_ok (hd : drawOk all = true) (hl : edgeOk all.length [] (prs all L) = true) {D : Nat → Prop} (hdn : Down all D) {i p : Nat} {o : Oper} (hp : (prs all L)[p]? = some (i, o)) (hi : ¬ D i) :
    putT (tmf ((prs all L).map (·.2)) x tm0 (Dp (prs all L) D) (prs all L).length) o.dst (x p) = tmf ((prs all L).map (·.2)) x tm0 (Dp (prs all L) (fun j => D j ∨ j = i)) (prs all L).length := by
  have ho := prs_get hp
  have hlt : p < (prs all L).length := (List.getElem?_eq_some_iff.1 hp).1
  have hat : ∀ {k : Nat} {q : Oper}, ((prs all L).map (·.2))[k]? = some q → ∃ j, (prs all L)[k]? = some (j, q) := fun {k q} hk => by
    rw [List.getElem?_map, Option.map_eq_some_iff] at hk
    obtain ⟨⟨j, q'⟩, h1, h2⟩ := hk
    cases h2; exact ⟨j, h1⟩
  have hop : ((prs all L).map (·.2))[p]? = some o := by rw [List.getElem?_map, hp]; rfl
  funext t
  by_cases ht : o.dst = some t
  · rw [ht, putT_eq]
    have h1 : tmf ((prs all L).map (·.2)) x tm0 (Dp (prs all L) (fun j => D j ∨ j = i)) (prs all L).length t = tmf ((prs all L).map (·.2)) x tm0 (Dp (prs all L) (fun j => D j ∨ j = i)) (p + 1) t := tmf_tail (fun k q hk hq hD hdst => by
      obtain ⟨j, hj⟩ := hat hq
      rw [dp_at hj] at hD
      rcases hD with hD | rfl
      · rcases drawOk_spec hd ho (prs_get hj) (.inl ht) hdst with h1 | h1 | h1
        · subst h1; have := pr_inj hl hj hp; omega
        · have := must_pos hl 3 _ _ h1 hj hp; omega
        · exact hi (must_in hdn 3 i j h1 (hdn j hD))
      · have := pr_inj hl hj hp; omega) _ (by omega)
    rw [h1, tmf_succ, if_pos ((dp_at hp).2 (.inr rfl)), hop]
    simp only [ht]
    rw [putT_eq]
  · rw [putT_ne ht]
    exact tmf_congr _ fun k q hk hq hdst => by
      obtain ⟨j, hj⟩ := hat hq
      rw [dp_at hj, dp_at hj]
      refine ⟨fun h => .inl h, fun h => ?_⟩
      rcases h with h | rfl
      · exact h
      · have := prs_get hj; rw [ho] at this; cases this; exact absurd hdst ht
theorem filter_head {l : List Nat} {f : Nat → Bool} {i : Nat} (h : f i = true) : (i :: l).filter f = i :: l.filter f := by simp [h]
theorem told_runM (hd : drawOk all = true) (hl : edgeOk all.length [] (prs all L) = true) (hE : E.Nodup) {z : Nat} (ht : TM P B N m all E Q df (prs all L) tm0 x F z 0) {D : Nat → Prop} {l : List Nat} (ho : Ord all.toArray D l) :
    ∀ s, Down all D → (∀ j e, E[j]? = some e → (D e ↔ j < s)) → s ≤ z → l.filter E.contains = E.drop s → ∀ h n, F[s]? = some (h, n) →
    WO P B N m all.toArray l Q ⟨tmf ((prs all L).map (·.2)) x tm0 (Dp (prs all L) D) (prs all L).length, h, n, df⟩ := by
  induction ho with
  | @nil D hall =>
    intro s hdn hDe hs hfl h n hF
    have hle := ht.le
    have es : s = E.length := by
      have : E.drop s = [] := by rw [← hfl]; rfl
      have := List.drop_eq_nil_iff.1 this; omega
    have ez : z = E.length := by omega
    subst ez
    obtain ⟨h', n', hF', hfin⟩ := ht.fin rfl
    subst es
    rw [hF] at hF'; cases hF'
    have e1 : tmf ((prs all L).map (·.2)) x tm0 (Dp (prs all L) D) (prs all L).length = tmf ((prs all L).map (·.2)) x tm0 Tr (prs all L).length := funext fun t => tmf_congr _ fun k q hk hq _ => by
      rw [List.getElem?_map, Option.map_eq_some_iff] at hq
      obtain ⟨⟨j, q'⟩, h1, h2⟩ := hq
      rw [dp_at h1]
      have := (List.getElem?_eq_some_iff.1 (prs_get h1)).1
      exact ⟨fun _ => trivial, fun _ => hall j (by simpa using this)⟩
    rw [← e1] at hfin
    intro K a hm hs
    exact mo_nil ⟨K, _, _, rfl, hs, .refl hm _, .normal, hfin⟩
  | @cons D i o l hi hn hedge hl' ih =>
    intro s hdn hDe hs hfl h n hF
    have hi' : all[i]? = some o := by simpa using hi
    have hdn' : Down all (fun j => D j ∨ j = i) := by
      rintro j (hj | rfl) o' ho' e' he' hb'
      · exact .inl (hdn j hj o' ho' e' he' hb')
      · rw [hi'] at ho'; cases ho'; exact .inl (hedge e' he' hb')
    obtain ⟨p, o', hp⟩ : ∃ p o', (prs all L)[p]? = some (i, o') := by
      rcases edgeOk_all hl i (List.getElem?_eq_some_iff.1 hi').1 with h1 | h1
      · cases h1
      · exact h1
    have : o' = o := by have := prs_get hp; rw [hi'] at this; cases this; rfl
    subst this
    have hreads := mreads_ok (x := x) (tm0 := tm0) hd hl hdn hp hn hedge
    rw [← mwrites_ok hd hl hdn hp hn] at ih
    cases hc : E.contains i with
    | true =>
      rw [filter_head hc] at hfl
      have hsi : E[s]? = some i := by
        have : (E.drop s)[0]? = some i := by rw [← hfl]; rfl
        simpa using this
      by_cases hsz : s < z
      rotate_left
      · have ez : z = s := by omega
        subst ez
        obtain ⟨h0, n0, g1, g2⟩ := ht.pan p i o' (Nat.zero_le _) hp hsi
        rw [hF] at g1; cases g1
        have hnd : ∀ (D' : Nat → Prop) (k : Nat) t, (∀ o', o' ∈ all → o'.dst ≠ some t) → tmf ((prs all L).map (·.2)) x tm0 D' k t = tm0 t := fun D' k t ht' => by
          have := tmf_tail (ops := (prs all L).map (·.2)) (x := x) (tm0 := tm0) (D := D') (t := t) (j := 0) (fun k' q _ hq _ => by
            rw [List.getElem?_map, Option.map_eq_some_iff] at hq
            obtain ⟨⟨j, q'⟩, h1, h2⟩ := hq
            cases h2
            exact ht' _ (List.mem_of_getElem? (prs_get h1))) k (Nat.zero_le _)
          exact this
        exact g2 _ hreads (fun t ht' => by rw [hnd _ _ t ht', hnd _ _ t ht']) i hi' l
      obtain ⟨h0, n0, h', n', g1, g2, g3⟩ := ht.effs p i o' s (Nat.zero_le _) hsz hp hsi
      rw [hF] at g1; cases g1
      have hlt := (List.getElem?_eq_some_iff.1 hsi).1
      refine g3 _ hreads i hi' l Q (ih (s + 1) hdn' (fun j e he => ?_) (by omega) ?_ h' n' g2)
      · constructor
        · rintro (h1 | h1)
          · have := (hDe j e he).1 h1; omega
          · subst h1; have := nodup_get hE he hsi; omega
        · intro h1
          by_cases ej : j = s
          · subst ej; rw [hsi] at he; cases he; exact .inr rfl
          · exact .inl ((hDe j e he).2 (by omega))
      · have := congrArg List.tail hfl
        simpa using this
    | false =>
      have hfl' : l.filter E.contains = E.drop s := by rw [← hfl]; simp only [List.filter_cons, hc]; rfl
      refine ht.ops p i o' (Nat.zero_le _) hp hc (fun e he => ?_) _ h n ⟨s, ?_, hF⟩ hreads i hi' l Q (ih s hdn' (fun j e he => ?_) hs hfl' h n hF)
      · cases hm : must all 3 e i with
        | false => rfl
        | true =>
          have h1 := must_in hdn 3 e i hm (fun o'' ho'' => by rw [hi'] at ho''; cases ho''; exact hedge)
          have := (hDe z e he).1 h1; omega
      · unfold allowed
        rw [Bool.and_eq_true, List.all_eq_true, List.all_eq_true]
        constructor
        · intro e he
          obtain ⟨j, hj⟩ := List.mem_iff_getElem?.1 he
          rw [List.getElem?_take] at hj
          split at hj
          · rename_i hjs
            cases hm : must all 3 i e with
            | false => rfl
            | true => exact absurd (must_in hdn 3 i e hm (hdn e ((hDe j e hj).2 hjs))) hn
          · cases hj
        · intro e he
          obtain ⟨j, hj⟩ := List.mem_iff_getElem?.1 he
          rw [List.getElem?_drop] at hj
          cases hm : must all 3 e i with
          | false => rfl
          | true =>
            have h1 := must_in hdn 3 e i hm (fun o'' ho'' => by rw [hi'] at ho''; cases ho''; exact hedge)
            have := (hDe (s + j) e hj).1 h1; omega
      · refine ⟨fun h1 => ?_, fun h1 => .inl ((hDe j e he).2 h1)⟩
        rcases h1 with h1 | h1
        · exact (hDe j e he).1 h1
        · subst h1
          have := List.mem_of_getElem? he
          simp at hc; exact absurd this hc

theorem orders_ok {R : Nat → Nat → Bool} (hR : ∀ d e, R d e = true → ∃ f, must all f d e = true) (E0 : List Nat) {D : Nat → Prop} {l : List Nat} (ho : Ord all.toArray D l) : ∀ (f : Nat) (E : List Nat), Down all D → (∀ e, e ∈ E ↔ e ∈ E0 ∧ ¬ D e) → (∀ e, e ∈ E0 → e < all.length) → E.length ≤ f → l.filter E0.contains ∈ ordersR R f E := by
  induction ho with
  | @nil D hall =>
    intro f E hdn hE hlt hf
    have : E = [] := by
      cases E with
      | nil => rfl
      | cons e E => have := (hE e).1 (by simp); exact absurd (hall e (by simpa using hlt e this.1)) this.2
    subst this
    cases f <;> simp [ordersR]
  | @cons D i o l hi hn hedge hl ih =>
    intro f E hdn hE hlt hf
    have hi' : all[i]? = some o := by simpa using hi
    have hdn' : Down all (fun j => D j ∨ j = i) := by
      rintro j (hj | rfl) o' ho' e' he' hb'
      · exact .inl (hdn j hj o' ho' e' he' hb')
      · rw [hi'] at ho'; cases ho'; exact .inl (hedge e' he' hb')
    cases hc : E0.contains i with
    | false =>
      rw [show (i :: l).filter E0.contains = l.filter E0.contains from by simp only [List.filter_cons, hc]; rfl]
      refine ih f E hdn' (fun e => ?_) hlt hf
      rw [hE]
      refine ⟨fun ⟨h1, h2⟩ => ⟨h1, fun h3 => h3.elim h2 fun h4 => ?_⟩, fun ⟨h1, h2⟩ => ⟨h1, fun h3 => h2 (.inl h3)⟩⟩
      subst h4; simp at hc; exact hc h1
    | true =>
      rw [filter_head hc]
      have hiE : i ∈ E := (hE i).2 ⟨by simpa using hc, hn⟩
      cases f with
      | zero => have := List.length_pos_of_mem hiE; omega
      | succ f =>
        cases hE' : E with
        | nil => rw [hE'] at hiE; cases hiE
        | cons e0 E1 =>
          rw [← hE']
          have : ordersR R (f + 1) E = (E.filter fun e => E.all fun d => Nat.beq d e || !R d e).flatMap fun e => (ordersR R f (E.filter fun d => !Nat.beq d e)).map (e :: ·) := by rw [hE']; rfl
          rw [this, List.mem_flatMap]
          refine ⟨i, List.mem_filter.2 ⟨hiE, List.all_eq_true.2 fun d hd => ?_⟩, List.mem_map.2 ⟨_, ih f (E.filter fun d => !Nat.beq d i) hdn' (fun e => ?_) hlt ?_, rfl⟩⟩
          · cases hm : R d i with
            | false => simp
            | true =>
              obtain ⟨k, hm⟩ := hR d i hm
              exact absurd (must_in hdn k d i hm (fun o' ho' => by rw [hi'] at ho'; cases ho'; exact hedge)) ((hE d).1 hd).2
          · rw [List.mem_filter, hE]
            have hb : (!Nat.beq e i) = true ↔ e ≠ i := by
              rw [Bool.not_eq_true']
              constructor
              · intro h1 h2
                rw [h2, Nat.beq_refl] at h1; cases h1
              · intro h1
                cases h2 : Nat.beq e i with
                | false => rfl
                | true => exact absurd (Nat.eq_of_beq_eq_true h2) h1
            rw [hb]
            refine ⟨fun ⟨⟨h1, h2⟩, h3⟩ => ⟨h1, fun h4 => h4.elim h2 h3⟩, fun ⟨h1, h2⟩ => ⟨⟨h1, fun h3 => h2 (.inl h3)⟩, fun h3 => h2 (.inr h3)⟩⟩
          · have hlt2 : (E.filter fun d => !Nat.beq d i).length < E.length := by
              refine List.length_filter_lt_length_iff_exists.2 ⟨i, hiE, by simp [Nat.beq_refl]⟩
            omega
theorem w_drawMR {id : Nat} {ops : Array Oper} {R : Nat → Nat → Bool} (hR : ∀ d e, R d e = true → ∃ f, must ops.toList f d e = true) (E : List Nat) {tm : Nat → AV} {h : Heap} {n : Nat} (hmx : P.follows .mixedOrders = true) (hd : drawOk ops.toList = true) (_ : E.Nodup) (hlt : (E.all fun e => decide (e < ops.toList.length)) = true)
    (hw : ∀ π, π ∈ ordersR R E.length E → ∃ L, edgeOk ops.toList.length [] (prs ops.toList L) = true ∧ (π.Nodup ∧ (∀ e, e ∈ π ↔ e ∈ E)) ∧ WM P B N m ops.toList π Q df 0 [] [] (prs ops.toList L) tm h n) : W P B N m (.region id ops true) Q ⟨tm, h, n, df⟩ := by
  intro K a hm hs
  refine mw_region_draw fun t => ?_
  rw [hmx, sched_any]
  have hb : backEdges ops.toList = true := by unfold drawOk at hd; rw [Bool.and_eq_true] at hd; exact hd.1
  have hord := linearise_ord hb t
  have hlt' : ∀ e, e ∈ E → e < ops.toList.length := fun e he => of_decide_eq_true (List.all_eq_true.1 hlt e he)
  obtain ⟨L, hl, ⟨hnd, hmem⟩, hwm⟩ := hw _ (orders_ok (all := ops.toList) hR E (by simpa using hord) E.length E (fun _ (h : False) => h.elim) (fun e => by simp) hlt' (Nat.le_refl _))
  obtain ⟨x, F, z, _, _, ⟨F', hF⟩, _, ht⟩ := hwm.told hnd _ [] tm (fun _ => .any) rfl rfl rfl
  have hcon : (List.filter E.contains (Region.linearise .any ops t)).contains = E.contains := by
    funext e
    have := hmem e
    rw [Bool.eq_iff_iff]
    simpa using this
  have hrun := told_runM (l := Region.linearise .any ops t) (D := fun _ => False) hd hl hnd ht (by simpa using hord) 0 (fun _ (h : False) => h.elim) (fun j e _ => by simp) (Nat.zero_le _) (by rw [hcon]; rfl) h n (by rw [hF]; simp)
  have e0 : tmf ((prs ops.toList L).map (·.2)) x tm (Dp (prs ops.toList L) (fun _ => False)) (prs ops.toList L).length = tm := by
    funext t'
    exact (tmf_tail (j := 0) (fun k o _ _ ⟨_, _, _, h⟩ => h.elim) _ (Nat.zero_le _))
  rw [e0] at hrun
  obtain ⟨k1, k2, hE'⟩ := drew_ok hs.rel (K.w.drawn + 1)
  have := hrun (K.at_ { K.w with drawn := K.w.drawn + 1 }) a hm ⟨hs.next, k1, hs.tr.mono hE', hs.dr.mono hE'⟩
  rw [Array.toArray_toList] at this
  exact MO.mono this fun e a' w' hq => Post.step (k2.stm hm) hq
end run
end
end Go.Lg

/- Walk rules within regions that draw their order and change own memory more than once. -/
set_option linter.unusedVariables false
set_option linter.unusedSimpArgs false
set_option linter.unusedSectionVars false
namespace Go.Lg
open Go
section
variable {P : Program} {B : Fb → Prop} {N m : Nat} {Q : AEx → St → Prop} {T : TT} {all : List Oper} {E : List Nat} {df : List Nat} {s : Nat} {G : List (Heap × Nat)} {ob : List (Nat × (Heap → Prop))} {rest : List (Nat × Oper)} {tm : Nat → AV} {hp hp' : Heap} {n n' : Nat}
  {i d : Nat} {op : Op} {ty : TypeId} {pos : String} {af : Array Edge} {j : Nat} {want b : Bool} {x y z : AV} {t : Nat}
theorem m_next {L : List Nat} {o : Oper} (ho : all[i]? = some o) (h : WM P B N m all E Q df s G ob ((i, o) :: prs all L) tm hp n) : WM P B N m all E Q df s G ob (prs all (i :: L)) tm hp n := by
  have : prs all (i :: L) = (i, o) :: prs all L := by simp [prs, ho]
  rw [this]; exact h
theorem m_nil0 (hs : s = E.length) (hq : Q .normal ⟨tm, hp, n, df⟩) : WM P B N m all E Q df s G [] (prs all []) tm hp n := .nil hs (fun _ h => by cases h) hq
theorem m_v (hT : TOK P T) (hi : E.contains i = false) (hx : pv T tm op = some x) (hd : d < N) (h : WM P B N m all E Q df s G ob rest (upd tm d x) hp n) : WM P B N m all E Q df s G ob ((i, ⟨some d, op, ty, pos, af, none⟩) :: rest) tm hp n :=
  .opT hi (fun tm' h n _ hr i hi => does_op hi (ung_none rfl) (fun _ h => by cases h; exact hd) (fun c h => by
    have h : op = .defer c := h
    rw [h] at hx; cases hx) (pv_sound hT (by rw [← hx]; exact pv_congr (rd_op (o := ⟨some d, op, ty, pos, af, none⟩) hr)))) h
theorem pvx_ndefer {h : Heap} (hx : pvx T tm h op = some x) : ∀ c, op ≠ .defer c := fun c e => by rw [e] at hx; cases hx
/-- What reads own memory, and can come at this stage alone. -/
theorem m_x (hT : TOK P T) (hi : E.contains i = false) (ho : ((List.range (E.length + 1)).all fun j => !allowed all E i j || Nat.beq j s) = true) (hx : pvx T tm hp op = some x) (hd : d < N) (h : WM P B N m all E Q df s G ob rest (upd tm d x) hp n) : WM P B N m all E Q df s G ob ((i, ⟨some d, op, ty, pos, af, none⟩) :: rest) tm hp n :=
  .opO hi ho (fun tm' h' n' ⟨e1, e2⟩ hr i hi => by
    subst e1 e2
    exact does_op hi (ung_none rfl) (fun _ h => by cases h; exact hd) (pvx_ndefer hx) (pvx_sound hT (by rw [← hx]; exact pvx_congr (rd_op (o := ⟨some d, op, ty, pos, af, none⟩) hr)))) h
/-- What doesn't look at own memory at all. -/
theorem m_xA (hT : TOK P T) (hi : E.contains i = false) (hx : ∀ h', pvx T tm h' op = some x) (hd : d < N) (h : WM P B N m all E Q df s G ob rest (upd tm d x) hp n) : WM P B N m all E Q df s G ob ((i, ⟨some d, op, ty, pos, af, none⟩) :: rest) tm hp n :=
  .opT hi (fun tm' h' n' _ hr i hi => does_op hi (ung_none rfl) (fun _ h => by cases h; exact hd) (pvx_ndefer (hx h')) (pvx_sound hT (by rw [← hx h']; exact pvx_congr (rd_op (o := ⟨some d, op, ty, pos, af, none⟩) hr)))) h
/-- What reads own memory: the same at each stage that it may come at is owed. -/
theorem m_xo (hT : TOK P T) (hi : E.contains i = false) (hx : pvx T tm hp op = some x) (hd : d < N) (h : WM P B N m all E Q df s G ((i, fun h' => pvx T tm h' op = some x) :: ob) rest (upd tm d x) hp n) : WM P B N m all E Q df s G ob ((i, ⟨some d, op, ty, pos, af, none⟩) :: rest) tm hp n :=
  .op (C := fun h' => pvx T tm h' op = some x) hi (fun tm' h' n' hc hr i hi => does_op hi (ung_none rfl) (fun _ h => by cases h; exact hd) (pvx_ndefer hx) (pvx_sound hT (by rw [← hc]; exact pvx_congr (rd_op (o := ⟨some d, op, ty, pos, af, none⟩) hr)))) h
theorem m_call {fo : Operand} {args : Array Operand} {ats : Array TypeId} {g : FuncId} {first cap xs as : List AV} (hi : E.contains i = false) (hf : evo tm fo = some (.func (.func g) first cap)) (hx : evs tm args.toList = some xs) (ha : first ++ xs ++ cap = as) (hpf : PF P g as (fun r => r = y)) (hd : d < N)
    (h : WM P B N m all E Q df s G ob rest (upd tm d y) hp n) : WM P B N m all E Q df s G ob ((i, ⟨some d, .call { callee := .value fo, args := args, argTypes := ats }, ty, pos, af, none⟩) :: rest) tm hp n := by
  subst ha
  exact .opT hi (fun tm' h n _ hr i hi => does_call hi (ung_none rfl) (fun _ h => by cases h; exact hd) (fun c h => by cases h) (opc_congr rfl hr hf hx hpf.cal) hpf) h
theorem m_p (hi : E.contains i = false) (hx : Pure P tm op x) (hd : d < N) (h : WM P B N m all E Q df s G ob rest (upd tm d x) hp n) : WM P B N m all E Q df s G ob ((i, ⟨some d, op, ty, pos, af, none⟩) :: rest) tm hp n :=
  .opT hi (fun tm' h n _ hr i hi => does_op hi (ung_none rfl) (fun _ h => by cases h; exact hd) hx.1 (hx.2 N ⟨some d, op, ty, pos, af, none⟩ tm' h n df rfl (rd_op (o := ⟨some d, op, ty, pos, af, none⟩) hr))) h
/-! changes -/
/-- An operation that changes own memory so, wherever its operands are these. -/
def Chg (P : Program) (N : Nat) (tm : Nat → AV) (op : Op) (h : Heap) (n : Nat) (x : AV) (h' : Heap) (n' : Nat) : Prop :=
  (∀ c, op ≠ .defer c) ∧ ∀ (o : Oper) (tm' : Nat → AV) (df : List Nat), o.op = op → (∀ t, Operand.tmp t ∈ op.operands.toList → tm' t = tm t) → OpV P N o ⟨tm', h, n, df⟩ x h' n'
theorem m_chg (he : E[s]? = some i) (hx : Chg P N tm op hp n x hp' n') (hd : d < N) (h : WM P B N m all E Q df (s + 1) ((hp, n) :: G) ob rest (upd tm d x) hp' n') : WM P B N m all E Q df s G ob ((i, ⟨some d, op, ty, pos, af, none⟩) :: rest) tm hp n :=
  .eff he (fun tm' hr i hi => does_op hi (ung_none rfl) (fun _ h => by cases h; exact hd) hx.1 (hx.2 ⟨some d, op, ty, pos, af, none⟩ tm' df rfl (rd_op (o := ⟨some d, op, ty, pos, af, none⟩) hr))) h
theorem m_chg0 (he : E[s]? = some i) (hx : Chg P N tm op hp n x hp' n') (h : WM P B N m all E Q df (s + 1) ((hp, n) :: G) ob rest tm hp' n') : WM P B N m all E Q df s G ob ((i, ⟨none, op, ty, pos, af, none⟩) :: rest) tm hp n :=
  .eff he (fun tm' hr i hi => does_op (x := x) hi (ung_none rfl) (fun _ h => by cases h) hx.1 (hx.2 ⟨none, op, ty, pos, af, none⟩ tm' df rfl (rd_op (o := ⟨none, op, ty, pos, af, none⟩) hr))) h
theorem c_alloc (hT : TOK P T) {i : TI} (ht : T t = some i) : Chg P N tm (.alloc t) hp n (.ptr n 0) (upd hp n (some (.cells i.zero t))) (n + 1) :=
  ⟨fun c h => (by cases h), fun o tm' df ho hr => opv_alloc hT (σ := ⟨tm', hp, n, df⟩) ho ht⟩
theorem c_box {a : Operand} (hx : evo tm a = some x) (hk : known x = true) : Chg P N tm (.box t a) hp n (.ptr n 0) (upd hp n (some (.cells (cellsA x) t))) (n + 1) :=
  ⟨fun c h => (by cases h), fun o tm' df ho hr => opv_box (σ := ⟨tm', hp, n, df⟩) ho (by rw [← hx]; exact evo_congr fun t e => hr t (by simp [Op.operands, e])) hk⟩
theorem c_store (hT : TOK P T) {a c : Operand} {u v : AV} (hu : evo tm a = some u) (hv : evo tm c = some v) (hs : hvStore T hp t u v = some hp') : Chg P N tm (.store t a c) hp n (.tuple []) hp' n := by
  refine ⟨fun c h => (by cases h), fun o tm' df ho hr => ?_⟩
  unfold hvStore at hs
  split at hs
  · rename_i i id off ht
    split at hs
    · rename_i cs e hH
      split at hs
      · rename_i h1
        split at hs
        · rename_i h2
          split at hs
          · rename_i h3
            cases hs
            refine opv_store hT (σ := ⟨tm', hp, n, df⟩) ho ?_ ?_ hH ht h1 h2 (by simpa [List.all_eq_true] using h3)
            · rw [← hu]; exact evo_congr fun t e => hr t (by simp [Op.operands, e])
            · rw [← hv]; exact evo_congr fun t e => hr t (by simp [Op.operands, e])
          · cases hs
        · cases hs
      · cases hs
    · cases hs
  · cases hs
theorem c_ap {c : Call} (h1 : ∀ o : Oper, o.op = .call c → ∀ tm', (∀ t, Operand.tmp t ∈ o.op.operands.toList → tm' t = tm t) → ∀ df, OpV P N o ⟨tm', hp, n, df⟩ x hp' n') : Chg P N tm (.call c) hp n x hp' n' :=
  ⟨fun c h => (by cases h), fun o tm' df ho hr => h1 o ho tm' (by rw [ho]; exact hr) df⟩
end
inductive AllW (p : List Nat → List Nat → Prop) : List (List Nat × List Nat) → Prop
  | nil : AllW p []
  | cons {a b : List Nat} {l : List (List Nat × List Nat)} (h : p a b) (hs : AllW p l) : AllW p ((a, b) :: l)
theorem fm_nil {p : List Nat → List Nat → Prop} : AllW p [] := .nil
theorem fm_cons {p : List Nat → List Nat → Prop} {a b : List Nat} {l : List (List Nat × List Nat)} (h : p a b) (hs : AllW p l) : AllW p ((a, b) :: l) := .cons h hs
theorem AllW.mem {p : List Nat → List Nat → Prop} {l : List (List Nat × List Nat)} (h : AllW p l) : ∀ w, w ∈ l → p w.1 w.2 := by
  induction h with
  | nil => intro w h; cases h
  | cons h hs ih =>
    intro w hw
    rcases List.mem_cons.1 hw with rfl | hw
    · exact h
    · exact ih w hw
/-- The orders, told with their walks' lists. -/
theorem w_drawNR {P : Program} {B : Fb → Prop} {N m : Nat} {Q : AEx → St → Prop} {df : List Nat} {id : Nat} {ops : Array Oper} {R : Nat → Nat → Bool} (hR : ∀ d e, R d e = true → ∃ f, must ops.toList f d e = true) (E : List Nat) (Ws : List (List Nat × List Nat)) {tm : Nat → AV} {h : Heap} {n : Nat} (hmx : P.follows .mixedOrders = true)
    (hd : (drawOk ops.toList && ((E.all fun e => decide (e < ops.toList.length)) && (decide E.Nodup && (((ordersR R E.length E).all fun π => Ws.any fun w => w.1 == π) &&
      (Ws.all fun w => edgeOk ops.toList.length [] (prs ops.toList w.2) && (decide w.1.Nodup && ((w.1.all E.contains) && (E.all w.1.contains)))))))) = true)
    (hw : AllW (fun E' L => WM P B N m ops.toList E' Q df 0 [] [] (prs ops.toList L) tm h n) Ws) : W P B N m (.region id ops true) Q ⟨tm, h, n, df⟩ := by
  simp only [Bool.and_eq_true, decide_eq_true_eq] at hd
  obtain ⟨h1, h2, h3, h4, h5⟩ := hd
  refine w_drawMR hR E hmx h1 h3 h2 fun π hπ => ?_
  have := List.all_eq_true.1 h4 π hπ
  rw [List.any_eq_true] at this
  obtain ⟨w, hm, e⟩ := this
  have e : w.1 = π := by simpa using e
  have h6 := List.all_eq_true.1 h5 w hm
  simp only [Bool.and_eq_true, decide_eq_true_eq, List.all_eq_true] at h6
  obtain ⟨g1, g2, g3, g4⟩ := h6
  subst e
  exact ⟨w.2, g1, ⟨g2, fun e => ⟨fun h => by simpa using g3 e h, fun h => by simpa using g4 e h⟩⟩, hw.mem w hm⟩
theorem w_drawN {P : Program} {B : Fb → Prop} {N m : Nat} {Q : AEx → St → Prop} {df : List Nat} {id : Nat} {ops : Array Oper} (E : List Nat) (Ws : List (List Nat × List Nat)) {tm : Nat → AV} {h : Heap} {n : Nat} (hmx : P.follows .mixedOrders = true)
    (hd : (drawOk ops.toList && ((E.all fun e => decide (e < ops.toList.length)) && (decide E.Nodup && (((orders ops.toList E.length E).all fun π => Ws.any fun w => w.1 == π) &&
      (Ws.all fun w => edgeOk ops.toList.length [] (prs ops.toList w.2) && (decide w.1.Nodup && ((w.1.all E.contains) && (E.all w.1.contains)))))))) = true)
    (hw : AllW (fun E' L => WM P B N m ops.toList E' Q df 0 [] [] (prs ops.toList L) tm h n) Ws) : W P B N m (.region id ops true) Q ⟨tm, h, n, df⟩ :=
  w_drawNR (fun _ _ h => ⟨3, h⟩) E Ws hmx hd hw
/-! what must come first, by a table -/
end Go.Lg

/- Own memory that nobody writes any more, told by its content; answers that hold own memory. -/
set_option linter.unusedVariables false
set_option linter.unusedSimpArgs false
set_option linter.unusedSectionVars false
namespace Go.Lg
open Go
/-- What own memory reads as once nobody writes it any more. -/
inductive Fz (H : Heap) : AV → AV → Prop
  | pur {x : AV} (h : Pur x) : Fz H x x
  | nothing : Fz H .empty (.view [])
  | slice {id off len : Nat} {cap : Option Nat} {sz : Nat} {cs : List AV} {e : TypeId} {ys : List AV} (hH : H id = some (.cells cs e)) (hl : off + len * sz ≤ cs.length) (hy : ys.length = len * sz)
      (h : ∀ (i : Nat) x y, cs[off + i]? = some x → ys[i]? = some y → Fz H x y) : Fz H (.slice id off len cap sz) (.view (chunk sz len ys))
  | ptr {id off : Nat} {cs : List AV} {e : TypeId} {ys : List AV} (hH : H id = some (.cells cs e)) (hy : ys.length = cs.length - off)
      (h : ∀ (i : Nat) x y, cs[off + i]? = some x → ys[i]? = some y → Fz H x y) : Fz H (.ptr id off) (.vptr ys)
  | agg {xs ys : List AV} (hy : ys.length = xs.length) (h : ∀ (i : Nat) x y, xs[i]? = some x → ys[i]? = some y → Fz H x y) : Fz H (.agg xs) (.agg ys)
  | tuple {xs ys : List AV} (hy : ys.length = xs.length) (h : ∀ (i : Nat) x y, xs[i]? = some x → ys[i]? = some y → Fz H x y) : Fz H (.tuple xs) (.tuple ys)
theorem Fz.mono {H H' : Heap} (hs : ∀ id b, H id = some b → H' id = some b) {x y : AV} (h : Fz H x y) : Fz H' x y := by
  induction h with
  | pur h => exact .pur h
  | nothing => exact .nothing
  | slice hH hl hy _ ih => exact .slice (hs _ _ hH) hl hy ih
  | ptr hH hy _ ih => exact .ptr (hs _ _ hH) hy ih
  | agg hy _ ih => exact .agg hy ih
  | tuple hy _ ih => exact .tuple hy ih
def Ctx.roAll (K : Ctx) (H : Heap) : Ctx := { K with ro := fun b => K.ro b ∨ OB K H b }
theorem roAll_ok {K : Ctx} {H : Heap} (hr : Rel K H) : Rel (K.roAll H) noHeap ∧ Step K H (K.roAll H) noHeap := by
  refine ⟨⟨fun _ h => absurd rfl h, fun _ h => absurd rfl h, fun _ _ h => by simp [noHeap] at h, fun _ _ h => absurd rfl h, ?_⟩, ⟨Nat.le_refl _, fun _ _ => ⟨rfl, rfl, rfl⟩, fun _ h => .inl h, Nat.le_refl _, fun _ _ _ => rfl, ?_, ?_, rfl, rfl, rfl⟩⟩
  · rintro b (h | ⟨id, h1, h2⟩)
    · exact hr.ros b h
    · have := hr.size_lt h1; rw [h2] at this; exact this
  · rintro b ⟨id, h, _⟩; exact absurd rfl h
  · rintro b (h | h)
    · exact .inl h
    · exact .inr (.inl h)
theorem fz_list {K : Ctx} {K' : Ctx} {cs ys : List AV} {vs : List Value} (hy : ys.length ≤ cs.length) (hv : VRs K cs vs) (h : ∀ (i : Nat) x y, cs[i]? = some x → ys[i]? = some y → ∀ v, VR K x v → VR K' y v) : VRs K' ys (vs.take ys.length) := by
  refine ⟨by rw [List.length_take, hv.1]; omega, fun i y v h1 h2 => ?_⟩
  have hi : i < ys.length := (List.getElem?_eq_some_iff.1 h1).1
  rw [List.getElem?_take, if_pos hi] at h2
  have hx : cs[i]? = some (cs[i]'(by omega)) := List.getElem?_eq_getElem _
  exact h i _ y hx h1 v (hv.2 i _ v hx h2)
theorem fz_VR {K : Ctx} {H : Heap} (hr : Rel K H) {x y : AV} (hf : Fz H x y) : ∀ v, VR K x v → VR (K.roAll H) y v := by
  induction hf with
  | pur h => exact fun v hv => hv.pur (K' := K.roAll H) (fun b (h : K.ro b) => Or.inl h) (fun _ _ => rfl) h
  | nothing => exact fun v hv => empty_view (by cases hv; exact .empty _)
  | @slice id off len cap sz cs e ys hH hl hy h ih =>
    intro v hv
    cases hv with
    | @slice _ _ _ _ _ o c hid ho hc hlc hcap =>
      by_cases h0 : 0 < c
      · obtain ⟨vs, hvs, hcell⟩ := own_cells (hr.br id _ hH) off
        have hlist := fz_list (K' := K.roAll H) (cs := cs.drop off) (ys := ys) (by rw [hy, List.length_drop]; omega) hvs (fun i x y h1 h2 v hv => ih i x y (by rw [List.getElem?_drop] at h1; exact h1) h2 v hv)
        rw [ho h0]
        exact view_of_cells hlist (fun j u hu => by
          rw [List.getElem?_take] at hu
          split at hu
          · exact hcell j u hu
          · cases hu) (.inr ⟨id, by rw [hH]; simp, rfl⟩) (by rw [hy]; exact Nat.le_refl _) hlc
      · have hl0 : len = 0 := by omega
        subst hl0
        have : chunk sz 0 ys = [] := rfl
        rw [this]
        exact view_mk (esz := 0) (Nat.zero_le _) (fun r hr => by cases hr) (fun h => absurd h (Nat.lt_irrefl 0))
  | @ptr id off cs e ys hH hy h ih =>
    intro v hv
    obtain ⟨rfl, hid⟩ := hv.ptr_inv
    obtain ⟨vs, hvs, hcell⟩ := own_cells (hr.br id _ hH) off
    have hlist := fz_list (K' := K.roAll H) (cs := cs.drop off) (ys := ys) (by rw [hy, List.length_drop]; exact Nat.le_refl _) hvs (fun i x y h1 h2 v hv => ih i x y (by rw [List.getElem?_drop] at h1; exact h1) h2 v hv)
    exact vptr_mk (.inr ⟨id, by rw [hH]; simp, rfl⟩) hlist (fun j u hu => by
      rw [List.getElem?_take] at hu
      split at hu
      · exact hcell j u hu
      · cases hu)
  | @agg xs ys hy h ih =>
    intro v hv
    obtain ⟨vs, rfl, hvs⟩ := hv.agg_inv
    have := fz_list (K' := K.roAll H) (by omega) hvs (fun i x y h1 h2 v hv => ih i x y h1 h2 v hv)
    rw [List.take_of_length_le (by rw [hvs.1]; omega)] at this
    exact VR.agg_.2 this
  | @tuple xs ys hy h ih =>
    intro v hv
    obtain ⟨vs, rfl, hvs⟩ := hv.tuple_inv
    have := fz_list (K' := K.roAll H) (by omega) hvs (fun i x y h1 h2 v hv => ih i x y h1 h2 v hv)
    rw [List.take_of_length_le (by rw [hvs.1]; omega)] at this
    exact VR.tuple_.2 this
/-- A list that tells of no own memory stays. -/
theorem fz_slice_pur {H : Heap} {id off len : Nat} {cap : Option Nat} {sz : Nat} {cs : List AV} {e : TypeId} (hH : H id = some (.cells cs e)) (hl : off + len * sz ≤ cs.length) (hp : ∀ x, x ∈ cs → Pur x) : Fz H (.slice id off len cap sz) (.view (chunk sz len ((cs.drop off).take (len * sz)))) :=
  .slice hH hl (by rw [List.length_take, List.length_drop]; omega) (fun i x y h1 h2 => by
    rw [List.getElem?_take] at h2
    split at h2
    · rw [List.getElem?_drop, h1] at h2; cases h2; exact .pur (hp x (List.mem_of_getElem? h1))
    · cases h2)
section
variable {P : Program}
theorem ac_fz {f : FuncId} {args : List AV} {H : Heap} {n : Nat} {X : AV → Prop} (h : AC P f args H n fun r H' _ => ∃ x y, r = .ret x ∧ Fz H' x y ∧ Pur y ∧ X y) : AC P f args H n fun r _ _ => ∃ x, r = .ret x ∧ Pur x ∧ X x := by
  intro K vs hn hr hv
  refine (h K vs hn hr hv).mono ?_
  rintro e w' ⟨K', H', r, hw, hr', hst, hrr, x, y, rfl, hf, hp, hx⟩
  cases hrr with
  | ret hv =>
    obtain ⟨g1, g2⟩ := roAll_ok hr'
    exact ⟨K'.roAll H', noHeap, .ret y, hw, g1, hst.trans g2, .ret (fz_VR hr' hf _ hv), y, rfl, hp, hx⟩
theorem pf_of_fz {f : FuncId} {args : List AV} {X : AV → Prop} (hc : Callable P f) (ha : ∀ x, x ∈ args → Pur x) (h0 : AC P f args (hl []) 0 fun r H' _ => ∃ x y, r = .ret x ∧ Fz H' x y ∧ Pur y ∧ X y) : PF P f args X :=
  pf_of_ac0 hc ha (ac_fz h0)
/-- The end of a function whose answer may hold own memory. -/
def DoneF (P : Program) (fn : Func) (X : AV → Prop) : AEx → St → Prop
  | .normal, σ | .ret, σ => σ.df = [] ∧ ∃ x y, ResV P fn.ntmps fn σ x ∧ Fz σ.h x y ∧ Pur y ∧ X y
  | _, _ => False
theorem pf_of_wf0 {f : FuncId} {fn : Func} {c : Code} {args : List AV} {X : AV → Prop} (hf : P.funcs[f]? = some fn) (hb : fn.body = some c) (hn : (fn.name == "runtime.NumGoroutine") = false) (hN : args.length ≤ fn.ntmps) (ha : ∀ x, x ∈ args → Pur x)
    (h : W P Plain fn.ntmps 0 c (DoneF P fn X) ⟨args0 args, hl [], 0, []⟩) : PF P f args X := by
  refine pf_of_fz ⟨fn, hf, hn, by rw [hb]; rfl⟩ ha (ac_of_w hf hb hN (h.mono fun e σ hq => ?_))
  cases e with
  | normal => obtain ⟨h1, x, y, h2, h3, h4, h5⟩ := hq; exact ⟨h1, x, h2, x, y, rfl, h3, h4, h5⟩
  | ret => obtain ⟨h1, x, y, h2, h3, h4, h5⟩ := hq; exact ⟨h1, x, h2, x, y, rfl, h3, h4, h5⟩
  | _ => exact hq.elim
theorem donef_ret {T : TT} (hT : TOK P T) {fn : Func} {X : AV → Prop} {rs : Array ResultVar} {xs : List AV} {y : AV} {tm : Nat → AV} {hp : Heap} {n : Nat} (hr : fn.results = rs) (h : resA T ⟨tm, hp, n, []⟩ rs.toList = some xs) (hf : Fz hp (tup xs) y) (hpu : Pur y) (hx : X y) : DoneF P fn X .ret ⟨tm, hp, n, []⟩ :=
  ⟨rfl, _, y, by have := resv_of (fn := fn) (N := fn.ntmps) (σ := ⟨tm, hp, n, []⟩) hT (by rw [hr]; exact h); exact this, hf, hpu, hx⟩
end
end Go.Lg

/- States told by the slots that count alone; dropping slots that nobody reads any more. -/
set_option linter.unusedVariables false
set_option linter.unusedSimpArgs false
set_option linter.unusedSectionVars false
namespace Go.Lg
open Go
def St.ofS (l : List (Nat × AV)) (hs : List (Option Blk)) (df : List Nat) : St := ⟨sp l, hl hs, hs.length, df⟩
def fitsS (r : List Nat) (tm : Nat → AV) : List (Nat × AV) → Prop
  | [] => True
  | (k, x) :: l => SubR r (tm k) x ∧ fitsS r tm l
theorem fitsS_get {r : List Nat} {tm : Nat → AV} : ∀ {l : List (Nat × AV)}, fitsS r tm l → ∀ t, SubR r (tm t) (sp l t)
  | [], _, t => SubR.any _
  | (k, x) :: l, h, t => by
    rw [sp_cons]
    cases hb : t == k with
    | true => rw [show t = k by simpa using hb]; exact h.1
    | false => exact fitsS_get h.2 t
def CanS (m : Nat) (σ : St) (l : List (Nat × AV)) (hs : List (Option Blk)) (df : List Nat) : Prop :=
  ∃ r : List Nat, r.length = hs.length ∧ r.Nodup ∧ m ≤ r.length ∧ (∀ i, i < m → r[i]? = some i) ∧ fitsS r σ.tm l ∧ fitsH r σ.h 0 hs ∧ df.map (fun i => r[i]?) = σ.df.map some
theorem CanS.ok {N m : Nat} {σ : St} {l : List (Nat × AV)} {hs : List (Option Blk)} {df : List Nat} (h : CanS m σ l hs df) : ∀ K a, m ≤ K.next → SR K N σ a → ∃ K1, K1.w = K.w ∧ SR K1 N (St.ofS l hs df) a ∧ StM m K σ.h K1 (St.ofS l hs df).h := by
  intro K a hm hsr
  obtain ⟨r, hrl, hnd, hmr, hid, hf, hh, hdf⟩ := h
  have key : ∀ i, hl hs i ≠ none → ∃ j b0 b, hl hs i = some b ∧ r[i]? = some j ∧ r.getD i i = j ∧ σ.h j = some b0 ∧ SubB r b0 b := by
    intro i hi
    cases hb : hl hs i with
    | none => exact absurd hb hi
    | some b =>
      obtain ⟨j, b0, h1, h2, h3⟩ := fitsH_get hh i b (hl_ne.1 hb)
      rw [Nat.zero_add] at h1
      exact ⟨j, b0, b, rfl, h1, by simp [h1], h2, h3⟩
  have hrel : Rel (K.ren r) (hl hs) := by
    refine ⟨fun i hi => ?_, fun i hi => ?_, fun i b hb => ?_, fun i j hi hj e => ?_, hsr.rel.ros⟩
    · obtain ⟨j, b0, b, _, h1, _⟩ := key i hi; exact (List.getElem?_eq_some_iff.1 h1).1
    · obtain ⟨j, b0, b, _, h1, h2, h3, _⟩ := key i hi
      show ¬ K.ro (K.base (r.getD i i))
      rw [h2]; exact hsr.rel.nro j (by rw [h3]; simp)
    · obtain ⟨j, b0, b', hb', h1, h2, h3, h4⟩ := key i (by rw [hb]; simp)
      rw [hb] at hb'; cases hb'
      cases h4 with
      | @cells xs ys e hxy =>
        obtain ⟨arr, fr, ha, ht, hz, hlen, hv⟩ := hsr.rel.br j _ h3
        obtain ⟨g1, g2⟩ := hxy.get
        refine ⟨arr, fr, ?_, ht, ?_, ?_, fun k y hy => ?_⟩
        · show K.w.heap[K.base (r.getD i i)]? = _; rw [h2]; exact ha
        · show arr.size = K.bsz (r.getD i i); rw [h2]; exact hz
        · show K.boff (r.getD i i) + ys.length ≤ arr.size; rw [h2, ← g1]; exact hlen
        · obtain ⟨x, hx, hxy'⟩ := g2 k y hy
          obtain ⟨v, hv1, hv2⟩ := hv k x hx
          exact ⟨v, by show arr[K.boff (r.getD i i) + k]? = _; rw [h2]; exact hv1, hxy' K v hv2⟩
      | deferred =>
        have := hsr.rel.br j _ h3
        show K.w.heap[K.base (r.getD i i)]? = _
        rw [h2]; exact this
      | @loop l tm hxy =>
        obtain ⟨fn, tmps, defers, ha, ht⟩ := hsr.rel.br j _ h3
        refine ⟨fn, tmps, defers, ?_, ht.1, fun t => hxy t K _ (ht.2 t)⟩
        show K.w.heap[K.base (r.getD i i)]? = _
        rw [h2]; exact ha
      | @map es hp =>
        obtain ⟨arr, clock, ha, hz, hv⟩ := hsr.rel.br j _ h3
        refine ⟨arr, clock, ?_, hz, fun k p hk => ?_⟩
        · show K.w.heap[K.base (r.getD i i)]? = _; rw [h2]; exact ha
        · obtain ⟨m, hm, g1, g2⟩ := hv k p hk
          obtain ⟨p1, p2⟩ := hp p (List.mem_of_getElem? hk)
          exact ⟨m, hm, VR.pur (K := K) (K' := K.ren r) (fun _ h => h) (fun _ _ => rfl) g1 p1, VR.pur (K := K) (K' := K.ren r) (fun _ h => h) (fun _ _ => rfl) g2 p2⟩
    · obtain ⟨i', b0, b, _, h1, h2, h3, _⟩ := key i hi
      obtain ⟨j', c0, c, _, g1, g2, g3, _⟩ := key j hj
      have e : K.base (r.getD i i) = K.base (r.getD j j) := e
      rw [h2, g2] at e
      have := hsr.rel.inj i' j' (by rw [h3]; simp) (by rw [g3]; simp) e
      subst this
      obtain ⟨hi', e1⟩ := List.getElem?_eq_some_iff.1 h1
      obtain ⟨hj', e2⟩ := List.getElem?_eq_some_iff.1 g1
      exact (List.getElem_inj hnd (h₀ := hi') (h₁ := hj')).1 (e1.trans e2.symm)
  refine ⟨K.ren r, rfl, ⟨hrl, hrel, ⟨hsr.tr.1, fun t => ?_⟩, ?_⟩, ⟨hm, hmr, fun i hi => ?_, fun _ h => h, Nat.le_refl _, fun _ _ _ => rfl, fun b hb => ?_, fun b hb => .inl hb, rfl, rfl, rfl⟩⟩
  · exact fitsS_get hf t K _ (hsr.tr.2 t)
  · exact DR.ren hdf hsr.dr
  · have := hid i hi
    simp [Ctx.ren, this]
  · obtain ⟨i, hi, rfl⟩ := hb
    obtain ⟨j, b0, b, _, h1, h2, h3, _⟩ := key i hi
    exact .inl ⟨j, by rw [h3]; simp, by show K.base j = K.base (r.getD i i); rw [h2]⟩

section
variable {P : Program} {B : Fb → Prop} {N m : Nat} {Q : AEx → St → Prop} {σ : St}
theorem w_cutS {c : Code} (l : List (Nat × AV)) (hs : List (Option Blk)) (df : List Nat) (hc : CanS m σ l hs df) (h : W P B N m c Q (St.ofS l hs df)) : W P B N m c Q σ := W.ghostM hc.ok h
/-- A loop over data 's', with a measure; the slots that count by a list. -/
theorem w_loopS {S : Type} {c : Code} (L : S → List (Nat × AV)) (Hs : S → List (Option Blk)) (df : List Nat) (Inv : S → Prop) (meas : S → Nat) (s0 : S) (h0 : CanS m σ (L s0) (Hs s0) df) (hi : Inv s0)
    (round : ∀ s, Inv s → W P B N m c (AEx.go (fun σ' => ∃ s', meas s' < meas s ∧ Inv s' ∧ CanS m σ' (L s') (Hs s') df) Q) (St.ofS (L s) (Hs s) df)) : W P B N m (.loop c) Q σ := by
  refine w_loop (fun n σ => ∃ s, meas s = n ∧ Inv s ∧ CanS m σ (L s) (Hs s) df) (meas s0) ⟨s0, rfl, hi, h0⟩ ?_
  rintro n σ' ⟨s, rfl, his, hc⟩
  refine W.ghostM hc.ok ((round s his).mono ?_)
  intro e σ2 hq
  cases e with
  | normal => obtain ⟨s', h1, h2, h3⟩ := hq; exact ⟨meas s', h1, s', rfl, h2, h3⟩
  | _ => exact hq
end
def lvAt : List (List Nat) → Nat → List Nat
  | [], _ => []
  | l :: _, 0 => l
  | _ :: r, n + 1 => lvAt r n
theorem lvAt_zero (l : List Nat) (r : List (List Nat)) : lvAt (l :: r) 0 = l := rfl
theorem lvAt_succ (l : List Nat) (r : List (List Nat)) (n : Nat) : lvAt (l :: r) (n + 1) = lvAt r n := rfl
section
variable {P : Program} {B : Fb → Prop} {N m : Nat} {Q : AEx → St → Prop} {σ : St}
/-- Slots that nobody reads any more are let go. -/
theorem w_live {tm : Nat → AV} {hp : Heap} {n : Nat} {df : List Nat} {d : Nat} {x : AV} (lv : Nat → List Nat) {id : Nat} {ops : Array Oper} {dr : Bool} {ks : List Nat} {l : List (Nat × AV)} (hk : lv id = ks) (hl : ks.map (fun k => (k, upd tm d x k)) = l)
    (h : W P B N m (.region id ops dr) Q ⟨sp l, hp, n, df⟩) : W P B N m (.region id ops dr) Q ⟨upd tm d x, hp, n, df⟩ := by
  refine W.ghost (σ1 := ⟨sp l, hp, n, df⟩) (fun K a hs => ⟨K, rfl, ⟨hs.next, hs.rel, ⟨hs.tr.1, fun t => ?_⟩, hs.dr⟩, .refl K _⟩) h
  have key : ∀ ks : List Nat, VR K (sp (ks.map (fun k => (k, upd tm d x k))) t) (a.tmps.getD t undef) := by
    intro ks
    induction ks with
    | nil => exact .any _
    | cons k ks ih =>
      rw [List.map_cons, sp_cons]
      cases hb : t == k with
      | true => rw [← show t = k by simpa using hb]; exact hs.tr.2 t
      | false => exact ih
  subst hk hl
  exact key _
end
/-! kcanS -/
theorem kcanS {σ : St} {l : List (Nat × AV)} {hs : List (Option Blk)} {df : List Nat} (r : List Nat) (h2 : r.length = hs.length := by rfl) (h3 : r.Nodup := by decide) (h5 : fitsS r σ.tm l := by simp only [fitsS, upd_b, Nat.reduceBEq, cond_true, cond_false, args0_zero, args0_succ, args0_nil, sp_cons, sp_nil, beq_self_eq_true, bne_self_eq_false, decide_true, decide_false, Bool.not_true, Bool.not_false, Int.toNat_natCast, List.take_zero, List.foldl_nil, List.length_nil, List.flatMap_cons, List.flatMap_nil, List.cons_append, List.nil_append, tE]; repeat' first | exact trivial | apply And.intro | exact SubR.any _ | exact SubR.mapv rfl | exact SubR.ptr rfl | exact SubR.slice rfl (.inl rfl) | exact SubR.slice rfl (.inr rfl) | exact SubR.pur (by assumption) | exact SubR.pur (by simp only [pur_bool, pur_int, pur_str, pur_empty, pur_nilptr, pur_nilFunc, pur_nilIface, pur_any, pur_agg, pur_tuple, pur_vptr, pur_view, pur_iface, pur_func, tup, List.mem_cons, forall_eq_or_imp, List.not_mem_nil, false_implies, implies_true, and_self, forall_const, forall_eq, tE] <;> fail)) (h6 : fitsH r σ.h 0 hs := by first | exact trivial | (simp only [fitsH, Nat.reduceAdd, hl_zero, hl_succ, hl_nil, upd_b, Nat.reduceBEq, cond_true, cond_false, args0_zero, args0_succ, args0_nil, sp_cons, sp_nil, beq_self_eq_true, bne_self_eq_false, decide_true, decide_false, Bool.not_true, Bool.not_false, Int.toNat_natCast, List.take_zero, List.foldl_nil, List.length_nil, List.flatMap_cons, List.flatMap_nil, List.cons_append, List.nil_append, tE]; repeat' first | exact trivial | apply And.intro | exact ⟨_, _, rfl, rfl, .deferred⟩ | refine ⟨_, _, rfl, rfl, .cells ?_⟩ | exact SubRs.nil | refine SubRs.cons ?_ ?_ | exact SubR.any _ | exact SubR.mapv rfl | exact SubR.ptr rfl | exact SubR.slice rfl (.inl rfl) | exact SubR.slice rfl (.inr rfl) | exact SubR.pur (by assumption) | exact SubR.pur (by simp only [pur_bool, pur_int, pur_str, pur_empty, pur_nilptr, pur_nilFunc, pur_nilIface, pur_any, pur_agg, pur_tuple, pur_vptr, pur_view, pur_iface, pur_func, tup, List.mem_cons, forall_eq_or_imp, List.not_mem_nil, false_implies, implies_true, and_self, forall_const, forall_eq, tE] <;> fail))) (h7 : df.map (fun i => r[i]?) = σ.df.map some := by rfl) : CanS 0 σ l hs df := ⟨r, h2, h3, Nat.zero_le _, (fun i hi => absurd hi (Nat.not_lt_zero i)), h5, h6, h7⟩
end Go.Lg

/- More operations: comparing with nil, bytes told as a text, an empty slice's literal, an append of nothing; calls whose callee is walked in place. -/
set_option linter.unusedVariables false
set_option linter.unusedSimpArgs false
set_option linter.unusedSectionVars false
namespace Go.Lg
open Go
section
variable {P : Program} {T : TT} {tm : Nat → AV} {t ty e : TypeId}
/-! nil -/
def nilEq (d : TypeDesc) (x : AV) (c : Value) : Option Bool :=
  match d, x, c with
  | .slice _, .view (_ :: _), .slice none 0 0 => some false
  | .slice _, .slice _ _ _ _ _, .slice none 0 0 => some false
  | .pointer _, .ptr _ _, .pointer none => some false
  | .pointer _, .vptr _, .pointer none => some false
  | .pointer _, .nilptr, .pointer none => some true
  | .func _ _ _, .func _ _ _, .nilFunc => some false
  | .func _ _ _, .nilFunc, .nilFunc => some true
  | _, _, _ => none
theorem nilEq_run (hT : TOK P T) {ti : TI} (ht : T t = some ti) {x : AV} {c : Value} {b : Bool} (hb : nilEq ti.desc x c = some b) {K : Ctx} {v : Value} (hv : VR K x v) : (∀ d, (Op.equalIn (d + 1) t v c).run P K.w = .ok b K.w) ∧ (binOp .eql t v c = (do pure (.bool (← Op.equal t v c)))) ∧ (binOp .neq t v c = (do pure (.bool (!(← Op.equal t v c))))) ∧ (∀ cs, v ≠ .agg cs) ∧ (v ≠ .nilIface) := by
  have hu := r_und hT ht K.w
  obtain ⟨dd, hdd⟩ : ∃ dd, ti.desc = dd := ⟨_, rfl⟩
  rw [hdd] at hu hb
  unfold nilEq at hb
  split at hb <;> first | (obtain rfl := Option.some.inj hb) | cases hb
  case h_1 =>
    obtain ⟨a, cc, esz, rfl, _, _, hcell⟩ := view_cells hv
    obtain ⟨blk, off, rfl, _⟩ := hcell (by simp)
    exact ⟨fun d => by unfold Op.equalIn; rw [run_bindv hu]; rfl, rfl, rfl, by simp, by simp⟩
  all_goals (cases hv; exact ⟨fun d => by unfold Op.equalIn; rw [run_bindv hu]; rfl, rfl, rfl, by simp, by simp⟩)
theorem p_nil (hT : TOK P T) {x : Operand} {c : Value} {a : AV} {ti : TI} {b : Bool} (ht : T t = some ti) (hx : evo tm x = some a) (hb : nilEq ti.desc a c = some b) : Pure P tm (.binOp .eql t x (.const c) ty) (.bool b) := by
  refine ⟨fun c h => (by cases h), fun N o tm' h n df hop hr => opv_of fun K ac hs => ?_⟩
  have hx' : evo tm' x = some a := by rw [← hx]; exact evo_congr fun t e => hr t (by simp [Op.operands, e])
  obtain ⟨h1, h2, h3, h4, h5⟩ := nilEq_run hT ht hb (evo_sound hs.tr hx')
  refine ⟨.bool b, ?_, .bool _⟩
  unfold execOp; rw [hop]
  refine run_v ?_
  rw [run_bindv (guard_int P _ t _ _ _ _ K.w h4 (.inl h5))]
  exact run_eqbin h1 h2
theorem p_nnil (hT : TOK P T) {x : Operand} {c : Value} {a : AV} {ti : TI} {b : Bool} (ht : T t = some ti) (hx : evo tm x = some a) (hb : nilEq ti.desc a c = some b) : Pure P tm (.binOp .neq t x (.const c) ty) (.bool !b) := by
  refine ⟨fun c h => (by cases h), fun N o tm' h n df hop hr => opv_of fun K ac hs => ?_⟩
  have hx' : evo tm' x = some a := by rw [← hx]; exact evo_congr fun t e => hr t (by simp [Op.operands, e])
  obtain ⟨h1, h2, h3, h4, h5⟩ := nilEq_run hT ht hb (evo_sound hs.tr hx')
  refine ⟨.bool !b, ?_, .bool _⟩
  unfold execOp; rw [hop]
  refine run_v ?_
  rw [run_bindv (guard_int P _ t _ _ _ _ K.w h4 (.inl h5))]
  exact run_nebin h1 h3

/-! bytes -/
def byteRows (bs : List UInt8) : List (List AV) := bs.map fun b => [.int .u8 b.toNat]
theorem byteRows_len (bs : List UInt8) : (byteRows bs).length = bs.length := by simp [byteRows]
theorem byteRows_pur (bs : List UInt8) : Pur (.view (byteRows bs)) := by
  refine .view fun r hr x hx => ?_
  simp only [byteRows, List.mem_map] at hr
  obtain ⟨y, _, rfl⟩ := hr
  rcases List.mem_singleton.1 hx with rfl; exact .int _ _
theorem fold_push (bs : List UInt8) : ∀ (s : ByteArray), ((bs.map fun b => (b.toNat : Int)).foldl (fun (r : ByteArray) n => r.push (UInt8.ofNat n.toNat)) s).data.toList = s.data.toList ++ bs := by
  induction bs with
  | nil => intro s; simp
  | cons b bs ih =>
    intro s
    rw [List.map_cons, List.foldl_cons, ih]
    simp
theorem p_bytes (hT : TOK P T) {s d : TypeId} {x : Operand} {bs : List UInt8} {ti ei di : TI} (hs : T s = some ti) (hd : ti.desc = .slice e) (he : T e = some ei) (hei : ei.desc = .int .u8) (hdd : T d = some di) (hdi : di.desc = .string) (hx : evo tm x = some (.view (byteRows bs))) :
    Pure P tm (.convert s d x) (.str bs) := by
  refine ⟨fun c h => (by cases h), fun N o tm' h n df hop hr => opv_of fun K ac hsr => ?_⟩
  have hx' : evo tm' x = some (.view (byteRows bs)) := by rw [← hx]; exact evo_congr fun t e => hr t (by simp [Op.operands, e])
  obtain ⟨a, c, esz, hv, hc, hl, hcell⟩ := view_cells (evo_sound hsr.tr hx')
  have u1 := hT.und _ _ hs; rw [hd] at u1
  have u2 := hT.und _ _ he; rw [hei] at u2
  have u3 := hT.und _ _ hdd; rw [hdi] at u3
  have key : ∃ b : ByteArray, (Conv.bytesToString (.slice a (byteRows bs).length c)).run P K.w = .ok (.string b) K.w ∧ b.data.toList = bs := by
    cases bs with
    | nil =>
      cases a with
      | none => exact ⟨.empty, rfl, rfl⟩
      | some a => exact ⟨_, run_bytesToString K.w a 0 c [] rfl, rfl⟩
    | cons b bs =>
      obtain ⟨blk, off, rfl, hro, hcells⟩ := hcell (by simp [byteRows])
      have e1 : esz = 1 := by
        rw [← hl [.int .u8 b.toNat] (by simp [byteRows])]; rfl
      subst e1
      have hlr : ∀ r, r ∈ byteRows (b :: bs) → r.length = 1 := hl
      obtain ⟨vs, g1, g2⟩ := flat_cells (byteRows (b :: bs)) off hlr hcells
      have hflat : (byteRows (b :: bs)).flatten = (b :: bs).map fun b => AV.int .u8 b.toNat := by
        have : ∀ l : List UInt8, (byteRows l).flatten = l.map fun b => AV.int .u8 b.toNat := by
          intro l
          induction l with
          | nil => rfl
          | cons y l ih => simp only [byteRows, List.map_cons, List.flatten_cons] at ih ⊢; rw [ih]; rfl
        exact this _
      have hvs : vs = ((b :: bs).map fun b => (b.toNat : Int)).map (Value.int .u8) := by
        refine List.ext_getElem? fun i => ?_
        rw [hflat] at g1
        by_cases hi : i < (b :: bs).length
        · have h1 : ((b :: bs).map fun b => AV.int .u8 b.toNat)[i]? = some (.int .u8 ((b :: bs)[i]).toNat) := by rw [List.getElem?_map, List.getElem?_eq_getElem hi]; rfl
          have h2 : vs[i]? = some (vs[i]'(by rw [g1.1]; simpa using hi)) := List.getElem?_eq_getElem _
          have h3 := (g1.2 i _ _ h1 h2).int_inv
          rw [h2, h3, List.getElem?_map, List.getElem?_map, List.getElem?_eq_getElem hi]; rfl
        · rw [List.getElem?_eq_none (by rw [g1.1]; simpa using hi), List.getElem?_eq_none (by simpa using hi)]
      have hload := run_loadCells_list (P := P) (w := K.w) ⟨blk, off, none⟩ vs (fun j v hj => by rw [add_plain]; exact g2 j v hj)
      have hlen : vs.length = (byteRows (b :: bs)).length := by rw [hvs]; simp [byteRows]
      rw [hlen, hvs] at hload
      refine ⟨_, run_bytesToString K.w _ _ c _ hload, ?_⟩
      rw [fold_push]; rfl
  obtain ⟨b, k1, k2⟩ := key
  refine ⟨.string b, ?_, by rw [← k2]; exact .str b⟩
  unfold execOp; rw [hop]
  refine run_v ?_
  rw [hv, run_convert_bytes_string K.w s d e _ _ _ u1 u2 u3]
  exact k1

/-! nothing -/
theorem p_bs0 (hT : TOK P T) {ti ei : TI} (ht : T t = some ti) (hd : ti.desc = .slice e) (he : T e = some ei) : Pure P tm (.buildSlice t 0 #[]) .empty := by
  refine ⟨fun c h => (by cases h), fun N o tm' h n df hop hr => fun K a hs => ?_⟩
  obtain ⟨g1, g2⟩ := newRo_ok hs.rel (.cells #[] e)
  refine ⟨.slice (some ⟨K.w.heap.size, 0, none⟩) 0 0, K.newRo (.cells #[] e), .inl ?_, hs.next, g1, g2, .empty _⟩
  unfold execOp; rw [hop]
  refine run_v ?_
  have hu := r_und hT ht K.w
  rw [hd] at hu
  unfold Instr.buildSlice
  rw [run_bindv hu]
  simp only
  rw [run_bindv (r_size hT he K.w), Nat.zero_mul, if_neg (by decide)]
  simp only [if_true]
  rw [run_bindv (run_purev _ _)]
  have e1 : (Array.map (fun x => (#[] : Array Value)[x % (#[] : Array Value).size]!) (Array.range 0)) = #[] := by simp
  have e2 : (Array.map (fun (x : Nat × Operand) => (x.fst, a.eval x.snd)) #[]).toList = [] := by simp
  rw [e1, e2]
  rfl
theorem p_ap0 (hT : TOK P T) {t2 : TypeId} {x z : Operand} {ti ei i2 : TI} {src : AV} (ht : T t = some ti) (hd : ti.desc = .slice e) (he : T e = some ei) (ht2 : T t2 = some i2) (hn2 : notInt i2.desc = true) (hx : evo tm x = some .empty) (hz : evo tm z = some src) (hs : src = .empty ∨ src = .view []) :
    Pure P tm (.call { callee := .builtin .append, args := #[x, z], argTypes := #[t, t2] }) .empty := by
  refine ⟨fun c h => (by cases h), fun N o tm' h n df hop hr => opv_of fun K ac hsr => ?_⟩
  have hx' : evo tm' x = some .empty := by rw [← hx]; exact evo_congr fun t e => hr t (by simp [Op.operands, Call.operands, e])
  have hz' : evo tm' z = some src := by rw [← hz]; exact evo_congr fun t e => hr t (by simp [Op.operands, Call.operands, e])
  have hvx := evo_sound hsr.tr hx'
  have hvz := evo_sound hsr.tr hz'
  have hsrc : SrcA (fun _ => none) ei.size src 0 [] := by
    rcases hs with rfl | rfl
    · exact ⟨rfl, rfl⟩
    · exact ⟨rfl, rfl, fun r hr => by cases hr⟩
  obtain ⟨l1, arr, l2, l3⟩ := src_run (P := P) (rel_none hsr.rel) hsrc hvz
  have harr : arr = #[] := by
    have := l3.1; simp at this; exact this
  subst harr
  generalize hhx : ac.eval x = vx at hvx
  cases hvx with
  | empty ad =>
    refine ⟨.slice ad 0 0, ?_, .empty ad⟩
    unfold execOp; rw [hop]
    simp only [resolve, List.map_toArray, List.map_cons, List.map_nil]
    rw [run_bindv (run_purev _ _)]
    unfold invoke
    simp only [builtin]
    rw [hhx]
    have hu := r_und hT ht K.w
    rw [hd] at hu
    have hrun : (Builtin.append_ #[t, t2] o.type #[.slice ad 0 0, ac.eval z]).run P K.w = .ok (.slice ad 0 0) K.w := by
      unfold Builtin.append_
      simp only [List.getElem?_toArray, List.getElem?_cons_zero, List.getElem?_cons_succ]
      rw [run_bindv hu]
      simp only
      rw [run_bindv (r_size hT he K.w)]
      rw [run_bindv (r_und hT ht2 K.w)]
      refine (run_bindv (a := false) (w' := K.w) ?hzz).trans ?_
      case hzz => cases hh : i2.desc <;> first | rfl | (rw [hh] at hn2; cases hn2)
      simp only [Bool.false_eq_true, if_false]
      rw [run_bindv l1]
      simp only [Nat.add_zero, Nat.le_refl, if_true, Bool.not_false]
      rw [run_bindv l2]
      cases ad with
      | none => rfl
      | some a => rfl
    rw [run_bindv hrun]; rfl
end

/-! calls in place -/
section
variable {P : Program} {T : TT} {B : Fb → Prop} {N m : Nat} {all rest : List Oper} {Q : AEx → St → Prop} {tm : Nat → AV} {hp : Heap} {n : Nat} {df : List Nat} {d : Nat} {ty : TypeId} {pos : String} {af : Array Edge} {j : Nat} {want : Bool} {y z : AV} {t : Nat}
theorem wl_callR {o : Oper} {fo : Operand} {args : Array Operand} {ats : Array TypeId} {g : FuncId} {first cap xs as : List AV} {R : AR → Heap → Nat → Prop} (hop : o.op = .call { callee := .value fo, args := args, argTypes := ats }) (hu : unguarded all o tm true) (hd : ∀ t, o.dst = some t → t < N) (hf : evo tm fo = some (.func (.func g) first cap)) (hx : evs tm args.toList = some xs) (ha : first ++ xs ++ cap = as) (hc : Callable P g) (hac : AC P g as hp n R)
    (h : ∀ r h' n', R r h' n' → match r with
      | .ret x => WL P B N m all rest Q ⟨putT tm o.dst x, h', n', df⟩
      | .panic x => Q (.panic x) ⟨tm, h', n', df⟩) : WL P B N m all (o :: rest) Q ⟨tm, hp, n, df⟩ := by
  subst ha
  exact wl_call (σ := ⟨tm, hp, n, df⟩) hu hd (fun c h => by rw [hop] at h; cases h) (opc_call (σ := ⟨tm, hp, n, df⟩) hop hf hx hc (Subs.refl _)) hac h
/-- A call with a contract over own memory. -/
theorem wacall {fo : Operand} {args : Array Operand} {ats : Array TypeId} {g : FuncId} {first cap xs as : List AV} {R : AR → Heap → Nat → Prop} (hf : evo tm fo = some (.func (.func g) first cap)) (hx : evs tm args.toList = some xs) (ha : first ++ xs ++ cap = as) (hc : Callable P g) (hac : AC P g as hp n R) (hd : d < N)
    (h : ∀ r h' n', R r h' n' → match r with
      | .ret x => WL P B N m all rest Q ⟨upd tm d x, h', n', df⟩
      | .panic x => Q (.panic x) ⟨tm, h', n', df⟩) : WL P B N m all (⟨some d, .call { callee := .value fo, args := args, argTypes := ats }, ty, pos, af, none⟩ :: rest) Q ⟨tm, hp, n, df⟩ :=
  wl_callR (o := ⟨some d, .call { callee := .value fo, args := args, argTypes := ats }, ty, pos, af, none⟩) rfl (ung_none rfl) (fun _ h => by cases h; exact hd) hf hx ha hc hac h
/-- How a walk in place goes on behind the callee. -/
def Inl (P : Program) (fn : Func) (next : AV → Heap → Nat → Prop) : AEx → St → Prop
  | .normal, σ | .ret, σ => σ.df = [] ∧ ∃ x, ResV P fn.ntmps fn σ x ∧ next x σ.h σ.n
  | _, _ => False
theorem wl_inl {fo : Operand} {args : Array Operand} {ats : Array TypeId} {g : FuncId} {first cap xs as : List AV} {fn : Func} {c : Code} {M : Nat} (hf : evo tm fo = some (.func (.func g) first cap)) (hx : evs tm args.toList = some xs) (ha : first ++ xs ++ cap = as) (hfn : P.funcs[g]? = some fn) (hb : fn.body = some c) (hnm : (fn.name == "runtime.NumGoroutine") = false) (hM : fn.ntmps = M) (hN : as.length ≤ M) (hd : d < N)
    (h : W P Plain M n c (Inl P fn (fun x h' n' => WL P B N m all rest Q ⟨upd tm d x, h', n', df⟩)) ⟨args0 as, hp, n, []⟩) : WL P B N m all (⟨some d, .call { callee := .value fo, args := args, argTypes := ats }, ty, pos, af, none⟩ :: rest) Q ⟨tm, hp, n, df⟩ := by
  subst hM
  refine wacall hf hx ha ⟨fn, hfn, hnm, by rw [hb]; rfl⟩ (R := fun r h' n' => ∃ x, r = .ret x ∧ WL P B N m all rest Q ⟨upd tm d x, h', n', df⟩) (ac_of_w hfn hb hN (h.mono fun e σ hq => ?_)) hd ?_
  · cases e with
    | normal => obtain ⟨h1, x, h2, h3⟩ := hq; exact ⟨h1, x, h2, x, rfl, h3⟩
    | ret => obtain ⟨h1, x, h2, h3⟩ := hq; exact ⟨h1, x, h2, x, rfl, h3⟩
    | _ => exact hq.elim
  · rintro r h' n' ⟨x, rfl, h⟩; exact h
theorem inl_ret (hT : TOK P T) {fn : Func} {next : AV → Heap → Nat → Prop} {rs : Array ResultVar} {xs : List AV} (hr : fn.results = rs) (h : resA T ⟨tm, hp, n, []⟩ rs.toList = some xs) (hx : next (tup xs) hp n) : Inl P fn next .ret ⟨tm, hp, n, []⟩ :=
  ⟨rfl, _, by have := resv_of (fn := fn) (N := fn.ntmps) (σ := ⟨tm, hp, n, []⟩) hT (by rw [hr]; exact h); exact this, hx⟩
/-- A box that is written later. -/
theorem l_box {a : Operand} {x : AV} (hx : evo tm a = some x) (hk : known x = true) (hd : d < N) (h : WL P B N m all rest Q ⟨upd tm d (.ptr n 0), upd hp n (some (.cells (cellsA x) t)), n + 1, df⟩) : WL P B N m all (⟨some d, .box t a, ty, pos, af, none⟩ :: rest) Q ⟨tm, hp, n, df⟩ := w_box hx hk hd h
/-- A comparison with nil whose answer isn't known. -/
theorem wl_nilx (hT : TOK P T) {op : BinOp} {yt : TypeId} {x : Operand} {a : AV} {ti : TI} {e : TypeId} (hop : op = .eql ∨ op = .neq) (ht : T t = some ti) (hd0 : ti.desc = .slice e) (hx : evo tm x = some a) (ha : a = .empty ∨ ∃ rows, a = .view rows) (hd : d < N) (h : ∀ b, WL P B N m all rest Q ⟨upd tm d (.bool b), hp, n, df⟩) : WL P B N m all (⟨some d, .binOp op t x (.const (.slice none 0 0)) yt, ty, pos, af, none⟩ :: rest) Q ⟨tm, hp, n, df⟩ := by
  intro pre hpre K ac hm hs
  have hv := evo_sound hs.tr hx
  obtain ⟨ad, l, c, hvs⟩ : ∃ ad l c, ac.eval x = .slice ad l c := by
    rcases ha with rfl | ⟨rows, rfl⟩
    · generalize ac.eval x = v at hv; cases hv; exact ⟨_, _, _, rfl⟩
    · obtain ⟨a, c, _, hv, _⟩ := view_cells hv; exact ⟨_, _, _, hv⟩
  have hu := r_und hT ht K.w
  rw [hd0] at hu
  have key : ∃ b, ∀ dd, (Op.equalIn (dd + 1) t (.slice ad l c) (.slice none 0 0)).run P K.w = .ok b K.w := by
    cases ad with
    | none => exact ⟨true, fun dd => by unfold Op.equalIn; rw [run_bindv hu]; rfl⟩
    | some q => exact ⟨false, fun dd => by unfold Op.equalIn; rw [run_bindv hu]; rfl⟩
  obtain ⟨b, hb⟩ := key
  rw [range'_cons]
  refine mo_value (at_pre hpre) (wanted_of hs.tr (ung_none rfl)) (fun c h => by cases h) (w' := K.w) (v := .bool (if op = .eql then b else !b)) (.inl ?_) ?_
  · unfold execOp
    refine run_v ?_
    rw [run_bindv (guard_int P _ t _ _ _ _ K.w (by rw [hvs]; simp) (.inl (by rw [hvs]; simp)))]
    rw [hvs]
    rcases hop with rfl | rfl
    · exact run_eqbin hb rfl
    · exact run_nebin hb rfl
  · have hs' : SR K N ⟨upd tm d (.bool (if op = .eql then b else !b)), hp, n, df⟩ (ac.put (some d) (.bool (if op = .eql then b else !b))) := ⟨hs.next, hs.rel, hs.tr.put (d := some d) (fun _ h => by cases h; exact hd) (.bool _), by rw [put_defers]; exact hs.dr⟩
    exact h _ (pre ++ [_]) (by simp [hpre]) K _ hm hs'
end
end Go.Lg

/- Answers that are one own block; slicing. -/
set_option linter.unusedVariables false
set_option linter.unusedSimpArgs false
set_option linter.unusedSectionVars false
namespace Go.Lg
open Go
/-- A slice of the frame's own, as it grows from nothing. -/
def ownR (id sz : Nat) (rows : List (List AV)) : AV := match rows with
  | [] => .empty
  | _ :: r => .slice id 0 (r.length + 1) none sz
theorem ownR_pos (id sz : Nat) {rows : List (List AV)} (h : 0 < rows.length) : ownR id sz rows = .slice id 0 rows.length none sz := by
  cases rows with
  | nil => cases h
  | cons x l => rfl
theorem flat_len {sz : Nat} {rows : List (List AV)} (h : ∀ r, r ∈ rows → r.length = sz) : rows.flatten.length = rows.length * sz := by
  induction rows with
  | nil => simp
  | cons r rs ih =>
    rw [List.flatten_cons, List.length_append, ih (fun x hx => h x (by simp [hx])), h r (by simp), List.length_cons, Nat.add_mul]
    omega
theorem flat_pur {rows : List (List AV)} (h : Pur (.view rows)) : ∀ x, x ∈ rows.flatten → Pur x := by
  intro x hx
  obtain ⟨r, h1, h2⟩ := List.mem_flatten.1 hx
  cases h with
  | view h => exact h r h1 x h2
theorem fz_rows {H : Heap} {id : Nat} {cap : Option Nat} {sz : Nat} {rows : List (List AV)} {e : TypeId} (hl : ∀ r, r ∈ rows → r.length = sz) (hp : Pur (.view rows)) (hH : H id = some (.cells rows.flatten e)) : Fz H (.slice id 0 rows.length cap sz) (.view rows) := by
  have h1 := flat_len hl
  have h := fz_slice_pur (len := rows.length) (off := 0) (cap := cap) (sz := sz) hH (by rw [h1]; omega) (flat_pur hp)
  rw [List.drop_zero, List.take_of_length_le (by rw [h1]; exact Nat.le_refl _)] at h
  rw [chunk_flatten hl] at h
  exact h
theorem flat_at {sz : Nat} : ∀ {rows : List (List AV)}, (∀ r, r ∈ rows → r.length = sz) → ∀ {i j : Nat} {r : List AV}, rows[i]? = some r → j < sz → rows.flatten[i * sz + j]? = r[j]?
  | [], _, i, j, r, h, _ => by simp at h
  | q :: rows, hl, 0, j, r, h, hj => by
    simp at h; subst h
    rw [Nat.zero_mul, Nat.zero_add, List.flatten_cons, List.getElem?_append_left (by rw [hl q (by simp)]; exact hj)]
  | q :: rows, hl, i + 1, j, r, h, hj => by
    rw [List.flatten_cons, List.getElem?_append_right (by rw [hl q (by simp), Nat.add_mul]; omega)]
    rw [show (i + 1) * sz + j - q.length = i * sz + j by rw [hl q (by simp), Nat.add_mul]; omega]
    exact flat_at (fun r hr => hl r (by simp [hr])) (by simpa using h) hj
theorem fz_rowsL {H : Heap} {id len : Nat} {cap : Option Nat} {sz : Nat} {rows : List (List AV)} {e : TypeId} (hlen : rows.length = len) (hl : ∀ r, r ∈ rows → r.length = sz) (hp : Pur (.view rows)) (hH : H id = some (.cells rows.flatten e)) : Fz H (.slice id 0 len cap sz) (.view rows) := by
  subst hlen; exact fz_rows hl hp hH
inductive FzL (H : Heap) : List AV → List AV → Prop
  | nil : FzL H [] []
  | cons {x y : AV} {xs ys : List AV} (h : Fz H x y) (hs : FzL H xs ys) : FzL H (x :: xs) (y :: ys)
theorem FzL.get {H : Heap} {xs ys : List AV} (h : FzL H xs ys) : ys.length = xs.length ∧ ∀ (i : Nat) x y, xs[i]? = some x → ys[i]? = some y → Fz H x y := by
  induction h with
  | nil => exact ⟨rfl, fun i x y h => by simp at h⟩
  | cons h hs ih =>
    refine ⟨by simp [ih.1], fun i x y h1 h2 => ?_⟩
    cases i with
    | zero => simp at h1 h2; subst h1 h2; exact h
    | succ i => exact ih.2 i x y (by simpa using h1) (by simpa using h2)
theorem FzL.agg {H : Heap} {xs ys : List AV} (h : FzL H xs ys) : Fz H (.agg xs) (.agg ys) := .agg h.get.1 h.get.2
theorem FzL.tuple {H : Heap} {xs ys : List AV} (h : FzL H xs ys) : Fz H (.tuple xs) (.tuple ys) := .tuple h.get.1 h.get.2
theorem doneA_ret {P : Program} {T : TT} (hT : TOK P T) {fn : Func} {Q : AR → Heap → Nat → Prop} {rs : Array ResultVar} {xs : List AV} {tm : Nat → AV} {hp : Heap} {n : Nat} (hr : fn.results = rs) (h : resA T ⟨tm, hp, n, []⟩ rs.toList = some xs) (hx : Q (.ret (tup xs)) hp n) : Done P fn Q .ret ⟨tm, hp, n, []⟩ :=
  ⟨rfl, _, by have := resv_of (fn := fn) (N := fn.ntmps) (σ := ⟨tm, hp, n, []⟩) hT (by rw [hr]; exact h); exact this, hx⟩
section
variable {P : Program}
/-- A function whose answer is a new slice: a contract over any memory. -/
theorem ac_own1 {f : FuncId} {args : List AV} {F : Nat → Option Nat → Nat → List AV → TypeId → Prop} (ha : ∀ x, x ∈ args → Pur x)
    (h0 : AC P f args (hl []) 0 fun r H' _ => ∃ id len cap sz cs e, r = .ret (.slice id 0 len cap sz) ∧ H' id = some (.cells cs e) ∧ (∀ x, x ∈ cs → Pur x) ∧ F len cap sz cs e) (H : Heap) (n : Nat) :
    AC P f args H n fun r H' n' => ∃ len cap sz cs e, r = .ret (.slice n 0 len cap sz) ∧ H' = upd H n (some (.cells cs e)) ∧ n' = n + 1 ∧ F len cap sz cs e := by
  intro K vs hn hr hv
  let K0 : Ctx := { K with next := 0 }
  have hr0 : Rel K0 (hl []) := ⟨fun id h => absurd (hl_nil id) h, fun id h => absurd (hl_nil id) h, fun id b h => (by rw [hl_nil] at h; cases h), fun i _ h => absurd (hl_nil i) h, hr.ros⟩
  have hv0 : VRs K0 args vs.toList := ⟨hv.1, fun i x v hx hvv => VR.pur (K := K) (K' := K0) (fun _ h => h) (fun _ _ => rfl) (hv.2 i x v hx hvv) (ha x (List.mem_of_getElem? hx))⟩
  refine (h0 K0 vs rfl hr0 hv0).mono ?_
  rintro e w' ⟨K', H', r, hw, hr', hst, hrr, id, len, cap, sz, cs, et, rfl, hH, hp, hF⟩
  subst hw
  have hidlt := hr'.lt id (by rw [hH]; simp)
  have hob : OB K' H' (K'.base id) := ⟨id, by rw [hH]; simp, rfl⟩
  have hnew : K.w.heap.size ≤ K'.base id := by
    rcases hst.own _ hob with ⟨i, h, _⟩ | h
    · exact absurd (hl_nil i) h
    · exact h
  have hnob : ∀ b, ¬ OB K0 (hl []) b := fun b ⟨i, h, _⟩ => absurd (hl_nil i) h
  have hsame : ∀ b, b < K.w.heap.size → K'.w.heap[b]? = K.w.heap[b]? := fun b hb => hst.same b hb (hnob b)
  let K1 : Ctx := { base := upd K.base n (K'.base id), boff := upd K.boff n (K'.boff id), bsz := upd K.bsz n (K'.bsz id), next := n + 1, ro := K'.ro, w := K'.w }
  have hmu : ∀ i, i < K.next → K1.base i = K.base i ∧ K1.boff i = K.boff i ∧ K1.bsz i = K.bsz i := fun i hi => ⟨upd_ne _ _ (by omega), upd_ne _ _ (by omega), upd_ne _ _ (by omega)⟩
  have hE : Ext K K1 := ⟨by show K.next ≤ n + 1; omega, hmu, fun b hb => hst.ro b hb, fun b hb => hsame b (hr.ros b hb)⟩
  have hold : ∀ i, H i ≠ none → i < n := fun i h => by have := hr.lt i h; omega
  have hcell : ∀ x v, Pur x → VR K' x v → VR K1 x v := fun x v hp hv => VR.pur (K := K') (K' := K1) (fun _ h => h) (fun _ _ => rfl) hv hp
  have hrel : Rel K1 (upd H n (some (.cells cs et))) := by
    refine ⟨fun i hi => ?_, fun i hi => ?_, fun i b hb => ?_, fun i j hi hj e => ?_, hr'.ros⟩
    · by_cases e : i = n
      · subst e; exact Nat.lt_succ_self _
      · rw [upd_ne _ _ e] at hi; have := hold i hi; show i < n + 1; omega
    · by_cases e : i = n
      · subst e
        show ¬ K'.ro (upd K.base i (K'.base id) i)
        rw [upd_same]; exact hr'.nro id (by rw [hH]; simp)
      · rw [upd_ne _ _ e] at hi
        show ¬ K'.ro (upd K.base n (K'.base id) i)
        rw [upd_ne _ _ e]
        intro hro
        rcases hst.ro' _ hro with h | h | h
        · exact hr.nro i hi h
        · exact hnob _ h
        · have := hr.size_lt hi; show False; have h' : K.w.heap.size ≤ K.base i := h; omega
    · by_cases e : i = n
      · subst e
        rw [upd_same] at hb; cases hb
        obtain ⟨arr, fr, g1, g2, g3, g4, g5⟩ := hr'.br id _ hH
        refine ⟨arr, fr, ?_, g2, ?_, ?_, fun j x hx => ?_⟩
        · show K'.w.heap[upd K.base i (K'.base id) i]? = _; rw [upd_same]; exact g1
        · show arr.size = upd K.bsz i (K'.bsz id) i; rw [upd_same]; exact g3
        · show upd K.boff i (K'.boff id) i + _ ≤ _; rw [upd_same]; exact g4
        · obtain ⟨v, h1, h2⟩ := g5 j x hx
          exact ⟨v, by show arr[upd K.boff i (K'.boff id) i + j]? = _; rw [upd_same]; exact h1, hcell x v (hp x (List.mem_of_getElem? hx)) h2⟩
      · rw [upd_ne _ _ e] at hb
        have hi : H i ≠ none := by rw [hb]; simp
        exact (hr.br i b hb).mono hE (hr.lt i hi) (hsame _ (hr.size_lt hi))
    · have e : upd K.base n (K'.base id) i = upd K.base n (K'.base id) j := e
      by_cases ei : i = n
      · by_cases ej : j = n
        · rw [ei, ej]
        · subst ei
          rw [upd_ne _ _ ej] at hj
          rw [upd_same, upd_ne _ _ ej] at e
          have := hr.size_lt hj; omega
      · rw [upd_ne _ _ ei] at hi
        by_cases ej : j = n
        · subst ej
          rw [upd_same, upd_ne _ _ ei] at e
          have := hr.size_lt hi; omega
        · rw [upd_ne _ _ ej] at hj
          rw [upd_ne _ _ ei, upd_ne _ _ ej] at e
          exact hr.inj i j hi hj e
  have hstep : Step K H K1 (upd H n (some (.cells cs et))) := by
    refine ⟨hE.next, hmu, hE.ro, hst.size, fun b hb _ => hsame b hb, fun b hb => ?_, fun b hb => ?_, hst.os, hst.tape, hst.output⟩
    · obtain ⟨i, hi, rfl⟩ := hb
      by_cases e : i = n
      · subst e; right; show _ ≤ upd K.base i (K'.base id) i; rw [upd_same]; exact hnew
      · rw [upd_ne _ _ e] at hi
        left; exact ⟨i, hi, by show K.base i = upd K.base n (K'.base id) i; rw [upd_ne _ _ e]⟩
    · rcases hst.ro' b hb with h | h | h
      · exact .inl h
      · exact absurd h (hnob b)
      · exact .inr (.inr h)
  cases hrr with
  | ret hvr =>
    refine ⟨K1, _, .ret (.slice n 0 len cap sz), rfl, hrel, hstep, .ret ?_, len, cap, sz, cs, et, rfl, rfl, rfl, hF⟩
    cases hvr with
    | @slice _ _ _ _ _ o c h ho hc hl hcap =>
      have e1 : K'.base id = K1.base n := (upd_same _ _ _).symm
      rw [e1]
      exact .slice (Nat.lt_succ_self _) (fun h => by rw [ho h]; show _ = upd K.boff n (K'.boff id) n + 0; rw [upd_same]) (fun h => by have := hc h; show _ ≤ upd K.bsz n (K'.bsz id) n; rw [upd_same]; exact this) hl hcap
end

section
variable {P : Program} {T : TT} {tm : Nat → AV} {t e : TypeId}
theorem natO_isNat {σ : St} {x : Option Operand} {n : Option Nat} (h : natO σ.tm x = some n) : isNat σ x n := by
  unfold natO at h
  split at h
  · cases h; trivial
  · rename_i x
    split at h
    · rename_i k n' hx
      split at h
      · rename_i h0
        cases h
        exact ⟨k, by rw [hx, Int.toNat_of_nonneg h0]⟩
      · cases h
    · cases h
theorem natO_congr {tm tm' : Nat → AV} {x : Option Operand} (h : ∀ t, x = some (.tmp t) → tm' t = tm t) : natO tm' x = natO tm x := by
  cases x with
  | none => rfl
  | some x =>
    unfold natO
    simp only
    rw [evo_congr (x := x) (fun t e => h t (by rw [e]))]
theorem p_slv (hT : TOK P T) {x : Operand} {lo hi : Option Operand} {l h : Option Nat} {rows : List (List AV)} {ti ei : TI} (ht : T t = some ti) (hd : ti.desc = .slice e) (he : T e = some ei) (hx : evo tm x = some (.view rows)) (hl : natO tm lo = some l) (hh : natO tm hi = some h)
    (h1 : bnd l 0 ≤ bnd h rows.length) (h2 : bnd h rows.length ≤ rows.length) (hsz : ∀ r, r ∈ rows → r.length = ei.size) : Pure P tm (.slice t x lo hi none) (.view ((rows.take (bnd h rows.length)).drop (bnd l 0))) := by
  refine ⟨fun c h => (by cases h), fun N o tm' hh' n df hop hr => ?_⟩
  refine opv_slice_view hT (σ := ⟨tm', hh', n, df⟩) (l := l) (h := h) hop ?_ ?_ ?_ ht hd he h1 h2 hsz
  · rw [← hx]; exact evo_congr fun t e => hr t (by simp [Op.operands, e])
  · exact natO_isNat (by rw [← hl]; exact natO_congr fun t e => hr t (by subst e; simp [Op.operands]))
  · exact natO_isNat (by rw [← hh]; exact natO_congr fun t e => hr t (by subst e; simp [Op.operands]))
theorem p_slo (hT : TOK P T) {x : Operand} {lo hi : Option Operand} {l h : Option Nat} {id off len : Nat} {cap : Option Nat} {sz : Nat} {ti ei : TI} (ht : T t = some ti) (hd : ti.desc = .slice e) (he : T e = some ei) (hx : evo tm x = some (.slice id off len cap sz)) (hl : natO tm lo = some l) (hh : natO tm hi = some h)
    (h1 : bnd l 0 ≤ bnd h len) (h2 : bnd h len ≤ len) (hsz : sz = ei.size) : Pure P tm (.slice t x lo hi none) (.slice id (off + bnd l 0 * sz) (bnd h len - bnd l 0) (cap.map (· - bnd l 0)) sz) := by
  refine ⟨fun c h => (by cases h), fun N o tm' hh' n df hop hr => ?_⟩
  refine opv_slice_own hT (σ := ⟨tm', hh', n, df⟩) (l := l) (h := h) (m := none) hop ?_ ?_ ?_ trivial ht hd he h1 h2 (fun m' h => by cases h) hsz
  · rw [← hx]; exact evo_congr fun t e => hr t (by simp [Op.operands, e])
  · exact natO_isNat (by rw [← hl]; exact natO_congr fun t e => hr t (by subst e; simp [Op.operands]))
  · exact natO_isNat (by rw [← hh]; exact natO_congr fun t e => hr t (by subst e; simp [Op.operands]))
end
/-! what is owed within a drawn region; calls that change own memory there -/
def Owed (all : List Oper) (E : List Nat) (i : Nat) (C : Heap → Prop) : Nat → List (Heap × Nat) → Prop
  | _, [] => True
  | s, g :: F => (allowed all E i s = true → C g.1) ∧ Owed all E i C (s + 1) F
theorem Owed.get {all : List Oper} {E : List Nat} {i : Nat} {C : Heap → Prop} : ∀ {F : List (Heap × Nat)} {k : Nat}, Owed all E i C k F → ∀ (s : Nat) g, F[s]? = some g → allowed all E i (k + s) = true → C g.1
  | [], k, _, s, g, h, _ => by simp at h
  | q :: F, k, h, 0, g, hg, ha => by simp at hg; subst hg; exact h.1 ha
  | q :: F, k, h, s + 1, g, hg, ha => Owed.get h.2 s g (by simpa using hg) (by rw [Nat.add_assoc, Nat.add_comm 1 s]; exact ha)
def OwedAll (all : List Oper) (E : List Nat) (F : List (Heap × Nat)) : List (Nat × (Heap → Prop)) → Prop
  | [] => True
  | (i, C) :: r => Owed all E i C 0 F ∧ OwedAll all E F r
theorem OwedAll.get {all : List Oper} {E : List Nat} {F : List (Heap × Nat)} : ∀ {ob : List (Nat × (Heap → Prop))}, OwedAll all E F ob → ∀ p, p ∈ ob → ∀ s g, F[s]? = some g → allowed all E p.1 s = true → p.2 g.1
  | [], _, p, h, _, _, _, _ => by cases h
  | (i, C) :: r, h, p, hp, s, g, hg, ha => by
    rcases List.mem_cons.1 hp with rfl | hp
    · exact h.1.get s g hg (by rw [Nat.zero_add]; exact ha)
    · exact h.2.get p hp s g hg ha
section
variable {P : Program} {B : Fb → Prop} {N m : Nat} {Q : AEx → St → Prop} {all : List Oper} {E : List Nat} {df : List Nat} {s : Nat} {G F : List (Heap × Nat)} {ob : List (Nat × (Heap → Prop))} {rest : List (Nat × Oper)} {tm : Nat → AV} {hp hp' : Heap} {n n' : Nat} {i d : Nat} {ty : TypeId} {pos : String} {af : Array Edge} {y : AV}
theorem m_nilO (hs : s = E.length) (hF : ((hp, n) :: G).reverse = F) (hob : OwedAll all E F ob) (hq : Q .normal ⟨tm, hp, n, df⟩) : WM P B N m all E Q df s G ob (prs all []) tm hp n := .nil hs (by subst hF; exact hob.get) hq
theorem does_callA {o : Oper} {σ : St} {f : FuncId} {args : List AV} (ho : all[i]? = some o) (hu : unguarded all o σ.tm true) (hd : ∀ t, o.dst = some t → t < N) (hdf : ∀ c, o.op ≠ .defer c) (hc : OpC P N o σ f args) (hac : AC P f args σ.h σ.n (fun r h' n'' => r = .ret y ∧ h' = hp' ∧ n'' = n')) :
    Does P B N m all.toArray i σ ⟨putT σ.tm o.dst y, hp', n', σ.df⟩ := by
  intro l Q h K a hm hs
  obtain ⟨vs, hr, hvs⟩ := hc K a hs
  refine mo_call (by simpa using ho) (wanted_of hs.tr hu) hdf hr (hac K vs hs.next hs.rel hvs) ?_
  rintro e w2 ⟨K', H', r, rfl, hrel, hst, hrr, rfl, rfl, hn⟩
  have hE := hst.ext hs.rel
  cases hrr with
  | @ret x v hv =>
    refine .inl ⟨v, rfl, ?_⟩
    have hs' : SR K' N ⟨putT σ.tm o.dst y, H', n', σ.df⟩ (a.put o.dst v) := ⟨hn, hrel, (hs.tr.mono hE).put hd hv, by rw [put_defers]; exact hs.dr.mono hE⟩
    exact (h K' _ (Nat.le_trans hm hst.next) hs').mono fun _ _ _ hq => hq.step (hst.stm hm)
theorem m_calle {fo : Operand} {args : Array Operand} {ats : Array TypeId} {g : FuncId} {first cap xs as : List AV} (he : E[s]? = some i) (hf : evo tm fo = some (.func (.func g) first cap)) (hx : evs tm args.toList = some xs) (ha : first ++ xs ++ cap = as) (hc : Callable P g) (hac : AC P g as hp n (fun r h' n'' => r = .ret y ∧ h' = hp' ∧ n'' = n')) (hd : d < N)
    (h : WM P B N m all E Q df (s + 1) ((hp, n) :: G) ob rest (upd tm d y) hp' n') : WM P B N m all E Q df s G ob ((i, ⟨some d, .call { callee := .value fo, args := args, argTypes := ats }, ty, pos, af, none⟩) :: rest) tm hp n := by
  subst ha
  exact .eff he (fun tm' hr i hi => does_callA (σ := ⟨tm', hp, n, df⟩) hi (ung_none rfl) (fun _ h => by cases h; exact hd) (fun c h => by cases h) (opc_congr rfl hr hf hx hc) hac) h
theorem wacall' {fo : Operand} {args : Array Operand} {ats : Array TypeId} {g : FuncId} {first cap xs as : List AV} {all rest : List Oper} (hf : evo tm fo = some (.func (.func g) first cap)) (hx : evs tm args.toList = some xs) (ha : first ++ xs ++ cap = as) (hc : Callable P g) (hac : AC P g as hp n (fun r h' n'' => r = .ret y ∧ h' = hp' ∧ n'' = n')) (hd : d < N)
    (h : WL P B N m all rest Q ⟨upd tm d y, hp', n', df⟩) : WL P B N m all (⟨some d, .call { callee := .value fo, args := args, argTypes := ats }, ty, pos, af, none⟩ :: rest) Q ⟨tm, hp, n, df⟩ :=
  wacall hf hx ha hc hac hd (by rintro r h' n'' ⟨rfl, rfl, rfl⟩; exact h)
end
end Go.Lg

/- A function that only computes, called with own memory as arguments: it reads it frozen for the time of the call. -/
set_option linter.unusedVariables false
set_option linter.unusedSimpArgs false
set_option linter.unusedSectionVars false
namespace Go.Lg
open Go
theorem ac_look {P : Program} {f : FuncId} {args ys : List AV} {X : AV → Prop} (h : PF P f ys X) (H : Heap) (n : Nat) (hy : ys.length = args.length) (hF : ∀ (i : Nat) x y, args[i]? = some x → ys[i]? = some y → Fz H x y)
    (hX : ∀ x, X x → ∀ K K' v, VR K x v → VR K' x v) : AC P f args H n fun r H' n' => H' = H ∧ n' = n ∧ ∃ x, r = .ret x ∧ Pur x ∧ X x := by
  intro K vs hn hr hv
  obtain ⟨hR, hS⟩ := roAll_ok hr
  have hv' : VRs (K.roAll H) ys vs.toList := by
    have := fz_list (K' := K.roAll H) (cs := args) (ys := ys) (by omega) hv (fun i x y h1 h2 v hv => fz_VR hr (hF i x y h1 h2) v hv)
    rwa [List.take_of_length_le (by rw [hv.1, hy]; exact Nat.le_refl _)] at this
  refine ((h.run n) (K.roAll H) vs hn hR hv').mono ?_
  rintro e w' ⟨K', H1, r, rfl, hr', hst, hrr, x, rfl, hp, hx⟩
  let K2 : Ctx := { base := K.base, boff := K.boff, bsz := K.bsz, next := K.next, ro := K.ro, w := K'.w }
  have hsame : ∀ b, b < K.w.heap.size → K'.w.heap[b]? = K.w.heap[b]? := fun b hb => hst.same b hb (fun ⟨id, h1, _⟩ => h1 rfl)
  have hE : Ext K K2 := ⟨Nat.le_refl _, fun _ _ => ⟨rfl, rfl, rfl⟩, fun _ h => h, fun b hb => hsame b (hr.ros b hb)⟩
  refine ⟨K2, H, .ret x, rfl, ⟨hr.lt, hr.nro, fun id b hb => ?_, hr.inj, fun b hb => Nat.lt_of_lt_of_le (hr.ros b hb) hst.size⟩, ⟨Nat.le_refl _, fun _ _ => ⟨rfl, rfl, rfl⟩, fun _ h => h, hst.size, fun b hb _ => hsame b hb, fun _ h => .inl h, fun _ h => .inl h, hst.os, hst.tape, hst.output⟩, ?_, rfl, hn, x, rfl, hp, hx⟩
  · have hid : H id ≠ none := by rw [hb]; simp
    exact (hr.br id b hb).mono hE (hr.lt id hid) (hsame _ (hr.size_lt hid))
  · cases hrr with
    | ret hv => exact .ret (hX x hx _ _ _ hv)
end Go.Lg

/- Short names for the walks' steps: rules that need no facts, found by their form. -/
set_option linter.unusedVariables false
set_option linter.unusedSimpArgs false
set_option linter.unusedSectionVars false
namespace Go.Lg
open Go
/-- One step that needs no facts. -/
class Red (p : Prop) (q : outParam Prop) : Prop where
  h : q → p
section
variable {P : Program} {B : Fb → Prop} {N m : Nat} {Q : AEx → St → Prop} {σ : St} {next : St → Prop} {all : List Oper} {tm : Nat → AV} {hp : Heap} {n : Nat} {df : List Nat} {bb : Bool} {k : Nat}
instance {x y : Code} : Red (W P B N m (.seq x y) Q σ) (W P B N m x (AEx.go (W P B N m y Q) Q) σ) := ⟨w_seq⟩
instance {id : Nat} {ops : Array Oper} : Red (W P B N m (.region id ops false) Q σ) (WL P B N m ops.toList ops.toList Q σ) := ⟨w_region⟩
instance : Red (WL P B N m all [] Q σ) (Q .normal σ) := ⟨wl_nil⟩
instance : Red (WR P B N m all (AtH hp n) Q df bb k [] tm hp n) (Q .normal ⟨tm, hp, n, df⟩) := ⟨wr_nil⟩
instance : Red (WR P B N m all AnyH Q df bb k [] tm hp n) (Q .normal ⟨tm, hp, n, df⟩) := ⟨wr_nilA⟩
instance {e : Nat} {h0 h1 : Heap} {n0 n1 : Nat} : Red (WR P B N m all (AtE all e h0 n0 h1 n1) Q df true k [] tm hp n) (Q .normal ⟨tm, hp, n, df⟩) := ⟨wr_nilE⟩
instance : Red (AEx.go next Q .normal σ) (next σ) := ⟨go_normal⟩
instance : Red (AEx.go next Q .ret σ) (Q .ret σ) := ⟨go_ret⟩
instance {i : Nat} : Red (AEx.go next Q (.exit i) σ) (Q (.exit i) σ) := ⟨go_exit⟩
instance {id : Nat} : Red (AEx.blk id Q .normal σ) (Q .normal σ) := ⟨blk_normal⟩
instance {id : Nat} : Red (AEx.blk id Q .ret σ) (Q .ret σ) := ⟨blk_ret⟩
instance {id : Nat} : Red (AEx.blk id Q (.exit id) σ) (Q .normal σ) := ⟨blk_here⟩
instance {id : Nat} {c : Code} : Red (W P B N m (.block id c) Q σ) (W P B N m c (AEx.blk id Q) σ) := ⟨w_block⟩
instance : Red (W P B N m .skip Q σ) (Q .normal σ) := ⟨w_skip⟩
instance {id : Nat} : Red (W P B N m (.exit id) Q σ) (Q (.exit id) σ) := ⟨w_exit⟩
instance {l : Nat} : Red (W P B N m (.label l) Q σ) (Q .normal σ) := ⟨w_label⟩
end
theorem aI {a b : Prop} (x : a) (y : b) : a ∧ b := ⟨x, y⟩
theorem uU : (∀ (f : Nat → AV) (i : Nat) (x y : AV), upd (upd f i x) i y = upd f i y) ∧ ∀ (f : Nat → Option Blk) (i : Nat) (x y : Option Blk), upd (upd f i x) i y = upd f i y := ⟨@upd_upd AV, @upd_upd (Option Blk)⟩
end Go.Lg

/- Regions that draw their order, with changes whose outcome is not known beforehand. -/
set_option linter.unusedVariables false
set_option linter.unusedSimpArgs false
set_option linter.unusedSectionVars false
namespace Go.Lg
open Go
section
variable {P : Program} {B : Fb → Prop} {N m : Nat} {Q : AEx → St → Prop}
section
variable {all : List Oper} {E : List Nat} {df : List Nat} {pr : List (Nat × Oper)} {tm0 : Nat → AV}
end
end
end Go.Lg

/- Walk rules within regions that draw their order, with changes whose outcome is not known beforehand. -/
set_option linter.unusedVariables false
set_option linter.unusedSimpArgs false
set_option linter.unusedSectionVars false
namespace Go.Lg
open Go
section
variable {P : Program} {B : Fb → Prop} {N m : Nat} {Q : AEx → St → Prop} {T : TT} {all : List Oper} {E : List Nat} {df : List Nat} {s : Nat} {G : List (Heap × Nat)} {ob : List (Nat × (Heap → Prop))} {rest : List (Nat × Oper)} {tm : Nat → AV} {hp hp' : Heap} {n n' : Nat}
  {i d : Nat} {op : Op} {ty : TypeId} {pos : String} {af : Array Edge} {j : Nat} {want b : Bool} {x y z : AV} {t : Nat}
/-! changes -/
end
section
variable {P : Program} {B : Fb → Prop} {N m : Nat} {Q : AEx → St → Prop} {all : List Oper} {E : List Nat} {df : List Nat} {s : Nat} {G F : List (Heap × Nat)} {ob : List (Nat × (Heap → Prop))} {rest : List (Nat × Oper)} {tm : Nat → AV} {hp hp' : Heap} {n n' : Nat} {i d : Nat} {ty : TypeId} {pos : String} {af : Array Edge} {y : AV}
end
end Go.Lg


