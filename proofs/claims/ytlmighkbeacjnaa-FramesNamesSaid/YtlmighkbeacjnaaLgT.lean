/- Regions that draw their order, with several changes of own memory: one walk for each order that the changes may come in. -/
import Derived.Test.YtlmighkbeacjnaaLgS
set_option linter.unusedVariables false
set_option linter.unusedSimpArgs false
set_option linter.unusedSectionVars false
namespace Go.Lg
open Go

/-- Which stages (how many changes have been) an operation may come at. -/
def allowed (all : List Oper) (E : List Nat) (i s : Nat) : Bool := ((E.take s).all fun e => !must all 3 i e) && ((E.drop s).all fun e => !must all 3 e i)
/-- The orders that the changes may come in. -/
def ordersR (R : Nat → Nat → Bool) : Nat → List Nat → List (List Nat)
  | 0, _ => [[]]
  | f + 1, E => match E with
    | [] => [[]]
    | E => (E.filter fun e => E.all fun d => Nat.beq d e || !R d e).flatMap fun e => (ordersR R f (E.filter fun d => !Nat.beq d e)).map (e :: ·)
def orders (all : List Oper) : Nat → List Nat → List (List Nat) := ordersR (must all 3)
def prs (all : List Oper) (L : List Nat) : List (Nat × Oper) := L.filterMap fun i => (all[i]?).map fun o => (i, o)
def edgeOk (n : Nat) : List Nat → List (Nat × Oper) → Bool
  | seen, [] => (List.range n).all seen.contains
  | seen, (i, o) :: r => !seen.contains i && (o.after.toList.all fun e => !Region.binds .any e || seen.contains e.on) && edgeOk n (i :: seen) r

section lin
variable {all : List Oper}
theorem prs_get {L : List Nat} {p i : Nat} {o : Oper} (h : (prs all L)[p]? = some (i, o)) : all[i]? = some o := by
  have hm := List.mem_of_getElem? h
  simp only [prs, List.mem_filterMap, Option.map_eq_some_iff] at hm
  obtain ⟨j, _, o', ho, he⟩ := hm
  cases he; exact ho
theorem edgeOk_all {n : Nat} : ∀ {pr : List (Nat × Oper)} {seen : List Nat}, edgeOk n seen pr = true → ∀ i, i < n → i ∈ seen ∨ ∃ (p : Nat) (o : Oper), pr[p]? = some (i, o)
  | [], seen, h, i, hi => by
    simp only [edgeOk, List.all_eq_true, List.mem_range] at h
    exact .inl (by simpa using h i hi)
  | (j, o) :: r, seen, h, i, hi => by
    simp only [edgeOk, Bool.and_eq_true] at h
    rcases edgeOk_all h.2 i hi with h1 | ⟨p, o', h1⟩
    · rcases List.mem_cons.1 h1 with rfl | h1
      · exact .inr ⟨0, o, rfl⟩
      · exact .inl h1
    · exact .inr ⟨p + 1, o', by simpa using h1⟩
theorem edgeOk_edge {n : Nat} : ∀ {pr : List (Nat × Oper)} {seen : List Nat}, edgeOk n seen pr = true → ∀ (p i : Nat) (o : Oper), pr[p]? = some (i, o) → i ∉ seen ∧ (∀ (q : Nat) (o' : Oper), q < p → pr[q]? ≠ some (i, o')) ∧ ∀ e, e ∈ o.after.toList → Region.binds .any e = true → e.on ∈ seen ∨ ∃ (q : Nat) (o' : Oper), q < p ∧ pr[q]? = some (e.on, o')
  | [], _, _, p, i, o, hp => by simp at hp
  | (j, o1) :: r, seen, h, 0, i, o, hp => by
    simp only [edgeOk, Bool.and_eq_true] at h
    simp at hp
    obtain ⟨rfl, rfl⟩ := hp
    refine ⟨by simpa using h.1.1, fun q o' hq => by omega, fun e he hb => ?_⟩
    have := List.all_eq_true.1 h.1.2 e he
    rw [hb] at this
    simp only [Bool.not_true, Bool.false_or] at this
    exact .inl (by simpa using this)
  | (j, o1) :: r, seen, h, p + 1, i, o, hp => by
    simp only [edgeOk, Bool.and_eq_true] at h
    obtain ⟨h1, h2, h3⟩ := edgeOk_edge h.2 p i o (by simpa using hp)
    simp only [List.mem_cons, not_or] at h1
    refine ⟨h1.2, fun q o' hq => ?_, fun e he hb => ?_⟩
    · cases q with
      | zero => simp only [List.getElem?_cons_zero]; intro e; cases e; exact h1.1 rfl
      | succ q => simpa using h2 q o' (by omega)
    · rcases h3 e he hb with h4 | ⟨q, o', hq, h4⟩
      · rcases List.mem_cons.1 h4 with h5 | h5
        · exact .inr ⟨0, o1, by omega, by rw [h5]; rfl⟩
        · exact .inl h5
      · exact .inr ⟨q + 1, o', by omega, by simpa using h4⟩
theorem pr_inj {n : Nat} {pr : List (Nat × Oper)} (h : edgeOk n [] pr = true) {p q i : Nat} {o o' : Oper} (hp : pr[p]? = some (i, o)) (hq : pr[q]? = some (i, o')) : p = q := by
  rcases Nat.lt_trichotomy p q with h1 | h1 | h1
  · exact absurd hp ((edgeOk_edge h q i o' hq).2.1 p o h1)
  · exact h1
  · exact absurd hq ((edgeOk_edge h p i o hp).2.1 q o' h1)
theorem must_pos {n : Nat} {L : List Nat} (h : edgeOk n [] (prs all L) = true) : ∀ (f i j : Nat), must all f i j = true → ∀ {p q : Nat} {o o' : Oper}, (prs all L)[p]? = some (i, o) → (prs all L)[q]? = some (j, o') → p < q
  | 0, _, _, hm, _, _, _, _, _, _ => by cases hm
  | f + 1, i, j, hm, p, q, o, o', hp, hq => by
    unfold must at hm
    rw [prs_get hq] at hm
    simp only at hm
    rw [List.any_eq_true] at hm
    obtain ⟨e, he, hm⟩ := hm
    rw [Bool.and_eq_true, Bool.or_eq_true] at hm
    rcases (edgeOk_edge h q j o' hq).2.2 e he hm.1 with h1 | ⟨q', o1, hlt, h1⟩
    · cases h1
    · rcases hm.2 with h2 | h2
      · have := Nat.eq_of_beq_eq_true h2
        rw [this] at h1
        have := pr_inj h hp h1; omega
      · have := must_pos h f i e.on h2 hp h1; omega
end lin

section
variable {P : Program} {B : Fb → Prop} {N m : Nat} {Q : AEx → St → Prop}
/-- The walk, for one order 'E' of the changes: the memories so far (the last one first), what is yet owed. -/
inductive WM (P : Program) (B : Fb → Prop) (N m : Nat) (all : List Oper) (E : List Nat) (Q : AEx → St → Prop) (df : List Nat) : Nat → List (Heap × Nat) → List (Nat × (Heap → Prop)) → List (Nat × Oper) → (Nat → AV) → Heap → Nat → Prop
  | nil {s : Nat} {G : List (Heap × Nat)} {ob : List (Nat × (Heap → Prop))} {tm : Nat → AV} {h : Heap} {n : Nat} (hs : s = E.length) (hob : ∀ p, p ∈ ob → ∀ s g, ((h, n) :: G).reverse[s]? = some g → allowed all E p.1 s = true → p.2 g.1) (hq : Q .normal ⟨tm, h, n, df⟩) : WM P B N m all E Q df s G ob [] tm h n
  | op {s : Nat} {G : List (Heap × Nat)} {ob : List (Nat × (Heap → Prop))} {i : Nat} {o : Oper} {rest : List (Nat × Oper)} {tm : Nat → AV} {h : Heap} {n : Nat} {x : AV} {C : Heap → Prop} (hi : E.contains i = false) (hc : Calm P B N m all (fun h _ => C h) o tm df x) (hr : WM P B N m all E Q df s G ((i, C) :: ob) rest (putT tm o.dst x) h n) : WM P B N m all E Q df s G ob ((i, o) :: rest) tm h n
  | opT {s : Nat} {G : List (Heap × Nat)} {ob : List (Nat × (Heap → Prop))} {i : Nat} {o : Oper} {rest : List (Nat × Oper)} {tm : Nat → AV} {h : Heap} {n : Nat} {x : AV} (hi : E.contains i = false) (hc : Calm P B N m all (fun _ _ => True) o tm df x) (hr : WM P B N m all E Q df s G ob rest (putT tm o.dst x) h n) : WM P B N m all E Q df s G ob ((i, o) :: rest) tm h n
  | opO {s : Nat} {G : List (Heap × Nat)} {ob : List (Nat × (Heap → Prop))} {i : Nat} {o : Oper} {rest : List (Nat × Oper)} {tm : Nat → AV} {h : Heap} {n : Nat} {x : AV} (hi : E.contains i = false) (ho : ((List.range (E.length + 1)).all fun j => !allowed all E i j || Nat.beq j s) = true) (hc : Calm P B N m all (fun h' n' => h' = h ∧ n' = n) o tm df x) (hr : WM P B N m all E Q df s G ob rest (putT tm o.dst x) h n) : WM P B N m all E Q df s G ob ((i, o) :: rest) tm h n
  | eff {s : Nat} {G : List (Heap × Nat)} {ob : List (Nat × (Heap → Prop))} {i : Nat} {o : Oper} {rest : List (Nat × Oper)} {tm : Nat → AV} {h h' : Heap} {n n' : Nat} {x : AV} (he : E[s]? = some i) (hc : Eff P B N m all o tm h n h' n' df x) (hr : WM P B N m all E Q df (s + 1) ((h, n) :: G) ob rest (putT tm o.dst x) h' n') : WM P B N m all E Q df s G ob ((i, o) :: rest) tm h n
  | pan {s : Nat} {G : List (Heap × Nat)} {ob : List (Nat × (Heap → Prop))} {i : Nat} {o : Oper} {rest : List (Nat × Oper)} {tm : Nat → AV} {h : Heap} {n : Nat} (he : E[s]? = some i) (hp : ∀ tm', (∀ t, t ∈ rd all o → tm' t = tm t) → (∀ t, (∀ o', o' ∈ all → o'.dst ≠ some t) → tm' t = tm t) → ∀ i', all[i']? = some o → ∀ l, WO P B N m all.toArray (i' :: l) Q ⟨tm', h, n, df⟩)
      (hrest : ∀ p, p ∈ rest → must all 3 i p.1 = true ∧ ∀ s', s' ≤ s → E[s']? ≠ some p.1) (hob : ∀ p, p ∈ ob → ∀ s g, ((h, n) :: G).reverse[s]? = some g → allowed all E p.1 s = true → p.2 g.1) : WM P B N m all E Q df s G ob ((i, o) :: rest) tm h n

/-- What the walk tells of each operation; 'z': how many changes there are (all, or up to one that panics). -/
structure TM (P : Program) (B : Fb → Prop) (N m : Nat) (all : List Oper) (E : List Nat) (Q : AEx → St → Prop) (df : List Nat) (pr : List (Nat × Oper)) (tm0 : Nat → AV) (x : Nat → AV) (F : List (Heap × Nat)) (z k : Nat) : Prop where
  ops : ∀ p i o, k ≤ p → pr[p]? = some (i, o) → E.contains i = false → (∀ e, E[z]? = some e → must all 3 e i = false) → Calm P B N m all (fun h n => ∃ s, allowed all E i s = true ∧ F[s]? = some (h, n)) o (tmf (pr.map (·.2)) x tm0 Tr p) df (x p)
  effs : ∀ p i o s, k ≤ p → s < z → pr[p]? = some (i, o) → E[s]? = some i → ∃ h n h' n', F[s]? = some (h, n) ∧ F[s + 1]? = some (h', n') ∧ Eff P B N m all o (tmf (pr.map (·.2)) x tm0 Tr p) h n h' n' df (x p)
  fin : z = E.length → ∃ h n, F[E.length]? = some (h, n) ∧ Q .normal ⟨tmf (pr.map (·.2)) x tm0 Tr pr.length, h, n, df⟩
  pan : ∀ p i o, k ≤ p → pr[p]? = some (i, o) → E[z]? = some i → ∃ h n, F[z]? = some (h, n) ∧ ∀ tm', (∀ t, t ∈ rd all o → tm' t = tmf (pr.map (·.2)) x tm0 Tr p t) → (∀ t, (∀ o', o' ∈ all → o'.dst ≠ some t) → tm' t = tmf (pr.map (·.2)) x tm0 Tr p t) → ∀ i', all[i']? = some o → ∀ l, WO P B N m all.toArray (i' :: l) Q ⟨tm', h, n, df⟩
  len : F.length = z + 1
  le : z ≤ E.length

theorem nodup_get {E : List Nat} (hE : E.Nodup) {s t i : Nat} (h1 : E[s]? = some i) (h2 : E[t]? = some i) : s = t := by
  obtain ⟨l1, e1⟩ := List.getElem?_eq_some_iff.1 h1
  obtain ⟨l2, e2⟩ := List.getElem?_eq_some_iff.1 h2
  exact (List.getElem_inj (h₀ := l1) (h₁ := l2) hE).1 (e1.trans e2.symm)

theorem WM.told {all : List Oper} {E : List Nat} (hE : E.Nodup) {df : List Nat} {s : Nat} {G : List (Heap × Nat)} {ob : List (Nat × (Heap → Prop))} {rest : List (Nat × Oper)} {tm : Nat → AV} {h : Heap} {n : Nat} (hw : WM P B N m all E Q df s G ob rest tm h n) :
    ∀ (pr pre : List (Nat × Oper)) (tm0 y : Nat → AV), pr = pre ++ rest → G.length = s → tm = tmf (pr.map (·.2)) y tm0 Tr pre.length →
    ∃ x F z, s ≤ z ∧ (∀ p, p < pre.length → x p = y p) ∧ (∃ F', F = ((h, n) :: G).reverse ++ F') ∧ (∀ p, p ∈ ob → ∀ s g, F[s]? = some g → allowed all E p.1 s = true → p.2 g.1) ∧ TM P B N m all E Q df pr tm0 x F z pre.length := by
  induction hw with
  | @nil s G ob tm h n hs hob hq =>
    intro pr pre tm0 y hp hG ht
    refine ⟨y, ((h, n) :: G).reverse, E.length, by omega, fun _ _ => rfl, ⟨[], by simp⟩, hob, ⟨fun p i o hk hp' => ?_, fun p i o s hk _ hp' => ?_, fun _ => ⟨h, n, ?_, ?_⟩, fun p i o hk hp' => ?_, ?_, Nat.le_refl _⟩⟩
    · have := (List.getElem?_eq_some_iff.1 hp').1; rw [hp] at this; simp at this; omega
    · have := (List.getElem?_eq_some_iff.1 hp').1; rw [hp] at this; simp at this; omega
    · rw [List.reverse_cons, List.getElem?_append_right (by simp; omega)]
      simp [hG, hs]
    · have : pr.length = pre.length := by rw [hp]; simp
      rw [this, ← ht]; exact hq
    · have := (List.getElem?_eq_some_iff.1 hp').1; rw [hp] at this; simp at this; omega
    · simp [hG, hs]
  | @op s G ob i o rest tm h n x C hi hc hr ih =>
    intro pr pre tm0 y hp hG ht
    have ho : (pr.map (·.2))[pre.length]? = some o := by rw [hp]; simp
    obtain ⟨x', F, z, hz, h1, h2, h3, h4⟩ := ih pr (pre ++ [(i, o)]) tm0 (upd y pre.length x) (by rw [hp]; simp) hG (by
      rw [List.length_append, List.length_singleton, tmf_tr ho, upd_same, ht]
      rw [tmf_vals (x := upd y pre.length x) (y := y) pre.length fun i hi => upd_ne _ _ (by omega)])
    have hx : x' pre.length = x := by rw [h1 pre.length (by simp), upd_same]
    have hxy : ∀ i, i < pre.length → x' i = y i := fun i hi => by rw [h1 i (by simp; omega), upd_ne _ _ (by omega)]
    refine ⟨x', F, z, hz, hxy, h2, fun p hpo => h3 p (List.mem_cons_of_mem _ hpo), ⟨fun p i' o' hk hp' hi' hm' => ?_, fun p i' o' s' hk hsz hp' he => ?_, h4.fin, fun p i' o' hk hp' he => ?_, h4.len, h4.le⟩⟩
    · by_cases ep : p = pre.length
      · subst ep
        rw [hp] at hp'; simp at hp'
        obtain ⟨rfl, rfl⟩ := hp'
        rw [hx, tmf_vals _ hxy, ← ht]
        exact fun tm' h' n' ⟨s', ha, hf⟩ => hc tm' h' n' (h3 (i, C) (by simp) s' _ hf ha)
      · exact h4.ops p i' o' (by simp; omega) hp' hi' hm'
    · by_cases ep : p = pre.length
      · subst ep
        rw [hp] at hp'; simp at hp'
        obtain ⟨rfl, rfl⟩ := hp'
        have := List.mem_of_getElem? he
        simp at hi; exact absurd this hi
      · exact h4.effs p i' o' s' (by simp; omega) hsz hp' he
    · by_cases ep : p = pre.length
      · subst ep
        rw [hp] at hp'; simp at hp'
        obtain ⟨rfl, rfl⟩ := hp'
        have := List.mem_of_getElem? he
        simp at hi; exact absurd this hi
      · exact h4.pan p i' o' (by simp; omega) hp' he
  | @opT s G ob i o rest tm h n x hi hc hr ih =>
    intro pr pre tm0 y hp hG ht
    have ho : (pr.map (·.2))[pre.length]? = some o := by rw [hp]; simp
    obtain ⟨x', F, z, hz, h1, h2, h3, h4⟩ := ih pr (pre ++ [(i, o)]) tm0 (upd y pre.length x) (by rw [hp]; simp) hG (by
      rw [List.length_append, List.length_singleton, tmf_tr ho, upd_same, ht]
      rw [tmf_vals (x := upd y pre.length x) (y := y) pre.length fun i hi => upd_ne _ _ (by omega)])
    have hx : x' pre.length = x := by rw [h1 pre.length (by simp), upd_same]
    have hxy : ∀ i, i < pre.length → x' i = y i := fun i hi => by rw [h1 i (by simp; omega), upd_ne _ _ (by omega)]
    refine ⟨x', F, z, hz, hxy, h2, h3, ⟨fun p i' o' hk hp' hi' hm' => ?_, fun p i' o' s' hk hsz hp' he => ?_, h4.fin, fun p i' o' hk hp' he => ?_, h4.len, h4.le⟩⟩
    · by_cases ep : p = pre.length
      · subst ep
        rw [hp] at hp'; simp at hp'
        obtain ⟨rfl, rfl⟩ := hp'
        rw [hx, tmf_vals _ hxy, ← ht]
        exact fun tm' h' n' _ => hc tm' h' n' trivial
      · exact h4.ops p i' o' (by simp; omega) hp' hi' hm'
    · by_cases ep : p = pre.length
      · subst ep
        rw [hp] at hp'; simp at hp'
        obtain ⟨rfl, rfl⟩ := hp'
        have := List.mem_of_getElem? he
        simp at hi; exact absurd this hi
      · exact h4.effs p i' o' s' (by simp; omega) hsz hp' he
    · by_cases ep : p = pre.length
      · subst ep
        rw [hp] at hp'; simp at hp'
        obtain ⟨rfl, rfl⟩ := hp'
        have := List.mem_of_getElem? he
        simp at hi; exact absurd this hi
      · exact h4.pan p i' o' (by simp; omega) hp' he
  | @opO s G ob i o rest tm h n x hi hone hc hr ih =>
    intro pr pre tm0 y hp hG ht
    have ho : (pr.map (·.2))[pre.length]? = some o := by rw [hp]; simp
    obtain ⟨x', F, z, hz, h1, h2, h3, h4⟩ := ih pr (pre ++ [(i, o)]) tm0 (upd y pre.length x) (by rw [hp]; simp) hG (by
      rw [List.length_append, List.length_singleton, tmf_tr ho, upd_same, ht]
      rw [tmf_vals (x := upd y pre.length x) (y := y) pre.length fun i hi => upd_ne _ _ (by omega)])
    have hx : x' pre.length = x := by rw [h1 pre.length (by simp), upd_same]
    have hxy : ∀ i, i < pre.length → x' i = y i := fun i hi => by rw [h1 i (by simp; omega), upd_ne _ _ (by omega)]
    refine ⟨x', F, z, hz, hxy, h2, h3, ⟨fun p i' o' hk hp' hi' hm' => ?_, fun p i' o' s' hk hsz hp' he => ?_, h4.fin, fun p i' o' hk hp' he => ?_, h4.len, h4.le⟩⟩
    · by_cases ep : p = pre.length
      · subst ep
        rw [hp] at hp'; simp at hp'
        obtain ⟨rfl, rfl⟩ := hp'
        rw [hx, tmf_vals _ hxy, ← ht]
        refine fun tm' h' n' ⟨s', ha, hf⟩ => hc tm' h' n' ?_
        obtain ⟨F', hF⟩ := h2
        have hlt : s' < E.length + 1 := by have h5 := (List.getElem?_eq_some_iff.1 hf).1; rw [h4.len] at h5; have := h4.le; omega
        have h6 := List.all_eq_true.1 hone s' (List.mem_range.2 hlt)
        rw [ha] at h6
        simp only [Bool.not_true, Bool.false_or] at h6
        have : s' = s := Nat.eq_of_beq_eq_true h6
        rw [this, hF, List.reverse_cons, List.append_assoc, List.getElem?_append_right (by simp; omega)] at hf
        simp [hG] at hf
        exact ⟨hf.1.symm, hf.2.symm⟩
      · exact h4.ops p i' o' (by simp; omega) hp' hi' hm'
    · by_cases ep : p = pre.length
      · subst ep
        rw [hp] at hp'; simp at hp'
        obtain ⟨rfl, rfl⟩ := hp'
        have := List.mem_of_getElem? he
        simp at hi; exact absurd this hi
      · exact h4.effs p i' o' s' (by simp; omega) hsz hp' he
    · by_cases ep : p = pre.length
      · subst ep
        rw [hp] at hp'; simp at hp'
        obtain ⟨rfl, rfl⟩ := hp'
        have := List.mem_of_getElem? he
        simp at hi; exact absurd this hi
      · exact h4.pan p i' o' (by simp; omega) hp' he
  | @eff s G ob i o rest tm h h' n n' x he hc hr ih =>
    intro pr pre tm0 y hp hG ht
    have ho : (pr.map (·.2))[pre.length]? = some o := by rw [hp]; simp
    obtain ⟨x', F, z, hz, h1, ⟨F', h2⟩, h3, h4⟩ := ih pr (pre ++ [(i, o)]) tm0 (upd y pre.length x) (by rw [hp]; simp) (by simp [hG]) (by
      rw [List.length_append, List.length_singleton, tmf_tr ho, upd_same, ht]
      rw [tmf_vals (x := upd y pre.length x) (y := y) pre.length fun i hi => upd_ne _ _ (by omega)])
    have hx : x' pre.length = x := by rw [h1 pre.length (by simp), upd_same]
    have hxy : ∀ i, i < pre.length → x' i = y i := fun i hi => by rw [h1 i (by simp; omega), upd_ne _ _ (by omega)]
    refine ⟨x', F, z, by omega, hxy, ⟨[(h', n')] ++ F', by rw [h2]; simp⟩, h3, ⟨fun p i' o' hk hp' hi' hm' => ?_, fun p i' o' s' hk hsz hp' he' => ?_, h4.fin, fun p i' o' hk hp' he' => ?_, h4.len, h4.le⟩⟩
    · by_cases ep : p = pre.length
      · subst ep
        rw [hp] at hp'; simp at hp'
        obtain ⟨rfl, rfl⟩ := hp'
        have := List.mem_of_getElem? he
        simp at hi'; exact absurd this hi'
      · exact h4.ops p i' o' (by simp; omega) hp' hi' hm'
    · by_cases ep : p = pre.length
      · subst ep
        rw [hp] at hp'; simp at hp'
        obtain ⟨rfl, rfl⟩ := hp'
        have es : s' = s := nodup_get hE he' he
        subst es
        refine ⟨h, n, h', n', ?_, ?_, ?_⟩
        · rw [h2, List.reverse_cons, List.reverse_cons, List.append_assoc, List.append_assoc, List.getElem?_append_right (by simp; omega)]
          simp [hG]
        · rw [h2, List.reverse_cons, List.reverse_cons, List.append_assoc, List.append_assoc, List.getElem?_append_right (by simp; omega)]
          simp [hG]
        · rw [hx, tmf_vals _ hxy, ← ht]; exact hc
      · exact h4.effs p i' o' s' (by simp; omega) hsz hp' he'
    · by_cases ep : p = pre.length
      · subst ep
        rw [hp] at hp'; simp at hp'
        obtain ⟨rfl, rfl⟩ := hp'
        have := nodup_get hE he' he
        omega
      · exact h4.pan p i' o' (by simp; omega) hp' he'
  | @pan s G ob i o rest tm h n he hpn hrest hob =>
    intro pr pre tm0 y hp hG ht
    have hsl := (List.getElem?_eq_some_iff.1 he).1
    have hFs : ((h, n) :: G).reverse[s]? = some (h, n) := by
      rw [List.reverse_cons, List.getElem?_append_right (by simp; omega)]
      simp [hG]
    refine ⟨y, ((h, n) :: G).reverse, s, Nat.le_refl _, fun _ _ => rfl, ⟨[], by simp⟩, hob, ⟨fun p i' o' hk hp' hi' hm' => ?_, fun p i' o' s' hk hsz hp' he' => ?_, fun hh => by omega, fun p i' o' hk hp' he' => ?_, by simp [hG], Nat.le_of_lt hsl⟩⟩
    · by_cases ep : p = pre.length
      · subst ep
        rw [hp] at hp'; simp at hp'
        obtain ⟨rfl, rfl⟩ := hp'
        have := List.mem_of_getElem? he
        simp at hi'; exact absurd this hi'
      · have hmem : (i', o') ∈ rest := by
          rw [hp, List.getElem?_append_right (by omega)] at hp'
          have h0 : p - pre.length = (p - pre.length - 1) + 1 := by omega
          rw [h0, List.getElem?_cons_succ] at hp'
          exact List.mem_of_getElem? hp'
        have := (hrest _ hmem).1
        rw [hm' i he] at this; cases this
    · have hp2 : p = pre.length ∨ p ≠ pre.length := by omega
      rcases hp2 with rfl | ep
      · rw [hp] at hp'; simp at hp'
        obtain ⟨rfl, rfl⟩ := hp'
        have := nodup_get hE he' he
        omega
      · have hmem : (i', o') ∈ rest := by
          rw [hp, List.getElem?_append_right (by omega)] at hp'
          have h0 : p - pre.length = (p - pre.length - 1) + 1 := by omega
          rw [h0, List.getElem?_cons_succ] at hp'
          exact List.mem_of_getElem? hp'
        exact absurd he' ((hrest _ hmem).2 s' (Nat.le_of_lt hsz))
    · have hp2 : p = pre.length ∨ p ≠ pre.length := by omega
      rcases hp2 with rfl | ep
      · rw [hp] at hp'; simp at hp'
        obtain ⟨rfl, rfl⟩ := hp'
        exact ⟨h, n, hFs, by rw [← ht]; exact hpn⟩
      · have hmem : (i', o') ∈ rest := by
          rw [hp, List.getElem?_append_right (by omega)] at hp'
          have h0 : p - pre.length = (p - pre.length - 1) + 1 := by omega
          rw [h0, List.getElem?_cons_succ] at hp'
          exact List.mem_of_getElem? hp'
        exact absurd he' ((hrest _ hmem).2 s (Nat.le_refl _))

/-! the run -/
section run
variable {all : List Oper} {E : List Nat} {df : List Nat} {tm0 x : Nat → AV} {L : List Nat} {F : List (Heap × Nat)}
/-- A set of operations, by their places. -/
def Dp (pr : List (Nat × Oper)) (D : Nat → Prop) : Nat → Prop := fun p => ∃ i o, pr[p]? = some (i, o) ∧ D i
theorem dp_at {pr : List (Nat × Oper)} {D : Nat → Prop} {p i : Nat} {o : Oper} (h : pr[p]? = some (i, o)) : Dp pr D p ↔ D i :=
  ⟨fun ⟨j, o', h1, h2⟩ => by rw [h] at h1; cases h1; exact h2, fun h2 => ⟨i, o, h, h2⟩⟩
theorem mreads_ok (hd : drawOk all = true) (hl : edgeOk all.length [] (prs all L) = true) {D : Nat → Prop} (hdn : Down all D) {i p : Nat} {o : Oper} (hp : (prs all L)[p]? = some (i, o)) (hi : ¬ D i) (he : ∀ e, e ∈ o.after.toList → Region.binds .any e = true → D e.on) :
    ∀ t, t ∈ rd all o → tmf ((prs all L).map (·.2)) x tm0 (Dp (prs all L) D) (prs all L).length t = tmf ((prs all L).map (·.2)) x tm0 Tr p t := by
  intro t ht
  have ho := prs_get hp
  have hlt : p < (prs all L).length := (List.getElem?_eq_some_iff.1 hp).1
  have hat : ∀ {k : Nat} {q : Oper}, ((prs all L).map (·.2))[k]? = some q → ∃ j, (prs all L)[k]? = some (j, q) := fun {k q} hk => by
    rw [List.getElem?_map, Option.map_eq_some_iff] at hk
    obtain ⟨⟨j, q'⟩, h1, h2⟩ := hk
    cases h2; exact ⟨j, h1⟩
  have h1 : tmf ((prs all L).map (·.2)) x tm0 (Dp (prs all L) D) (prs all L).length t = tmf ((prs all L).map (·.2)) x tm0 (Dp (prs all L) D) p t := tmf_tail (fun k q hk hq hD hdst => by
    obtain ⟨j, hj⟩ := hat hq
    rw [dp_at hj] at hD
    rcases drawOk_spec hd ho (prs_get hj) (.inr ht) hdst with h1 | h1 | h1
    · subst h1; exact hi hD
    · have := must_pos hl 3 _ _ h1 hj hp; omega
    · exact hi (must_in hdn 3 i j h1 (hdn j hD))) _ (by omega)
  rw [h1]
  exact tmf_congr p fun k q hk hq hdst => ⟨fun _ => trivial, fun _ => by
    obtain ⟨j, hj⟩ := hat hq
    rw [dp_at hj]
    rcases drawOk_spec hd ho (prs_get hj) (.inr ht) hdst with h1 | h1 | h1
    · subst h1; have := pr_inj hl hj hp; omega
    · exact must_in hdn 3 j i h1 (fun o' ho' => by rw [ho] at ho'; cases ho'; exact he)
    · have := must_pos hl 3 _ _ h1 hp hj; omega⟩
theorem mwrites_ok (hd : drawOk all = true) (hl : edgeOk all.length [] (prs all L) = true) {D : Nat → Prop} (hdn : Down all D) {i p : Nat} {o : Oper} (hp : (prs all L)[p]? = some (i, o)) (hi : ¬ D i) :
    putT (tmf ((prs all L).map (·.2)) x tm0 (Dp (prs all L) D) (prs all L).length) o.dst (x p) = tmf ((prs all L).map (·.2)) x tm0 (Dp (prs all L) (fun j => D j ∨ j = i)) (prs all L).length := by
  have ho := prs_get hp
  have hlt : p < (prs all L).length := (List.getElem?_eq_some_iff.1 hp).1
  have hat : ∀ {k : Nat} {q : Oper}, ((prs all L).map (·.2))[k]? = some q → ∃ j, (prs all L)[k]? = some (j, q) := fun {k q} hk => by
    rw [List.getElem?_map, Option.map_eq_some_iff] at hk
    obtain ⟨⟨j, q'⟩, h1, h2⟩ := hk
    cases h2; exact ⟨j, h1⟩
  have hop : ((prs all L).map (·.2))[p]? = some o := by rw [List.getElem?_map, hp]; rfl
  funext t
  by_cases ht : o.dst = some t
  · rw [ht, putT_eq]
    have h1 : tmf ((prs all L).map (·.2)) x tm0 (Dp (prs all L) (fun j => D j ∨ j = i)) (prs all L).length t = tmf ((prs all L).map (·.2)) x tm0 (Dp (prs all L) (fun j => D j ∨ j = i)) (p + 1) t := tmf_tail (fun k q hk hq hD hdst => by
      obtain ⟨j, hj⟩ := hat hq
      rw [dp_at hj] at hD
      rcases hD with hD | rfl
      · rcases drawOk_spec hd ho (prs_get hj) (.inl ht) hdst with h1 | h1 | h1
        · subst h1; have := pr_inj hl hj hp; omega
        · have := must_pos hl 3 _ _ h1 hj hp; omega
        · exact hi (must_in hdn 3 i j h1 (hdn j hD))
      · have := pr_inj hl hj hp; omega) _ (by omega)
    rw [h1, tmf_succ, if_pos ((dp_at hp).2 (.inr rfl)), hop]
    simp only [ht]
    rw [putT_eq]
  · rw [putT_ne ht]
    exact tmf_congr _ fun k q hk hq hdst => by
      obtain ⟨j, hj⟩ := hat hq
      rw [dp_at hj, dp_at hj]
      refine ⟨fun h => .inl h, fun h => ?_⟩
      rcases h with h | rfl
      · exact h
      · have := prs_get hj; rw [ho] at this; cases this; exact absurd hdst ht
theorem filter_head {l : List Nat} {f : Nat → Bool} {i : Nat} (h : f i = true) : (i :: l).filter f = i :: l.filter f := by simp [h]
theorem told_runM (hd : drawOk all = true) (hl : edgeOk all.length [] (prs all L) = true) (hE : E.Nodup) {z : Nat} (ht : TM P B N m all E Q df (prs all L) tm0 x F z 0) {D : Nat → Prop} {l : List Nat} (ho : Ord all.toArray D l) :
    ∀ s, Down all D → (∀ j e, E[j]? = some e → (D e ↔ j < s)) → s ≤ z → l.filter E.contains = E.drop s → ∀ h n, F[s]? = some (h, n) →
    WO P B N m all.toArray l Q ⟨tmf ((prs all L).map (·.2)) x tm0 (Dp (prs all L) D) (prs all L).length, h, n, df⟩ := by
  induction ho with
  | @nil D hall =>
    intro s hdn hDe hs hfl h n hF
    have hle := ht.le
    have es : s = E.length := by
      have : E.drop s = [] := by rw [← hfl]; rfl
      have := List.drop_eq_nil_iff.1 this; omega
    have ez : z = E.length := by omega
    subst ez
    obtain ⟨h', n', hF', hfin⟩ := ht.fin rfl
    subst es
    rw [hF] at hF'; cases hF'
    have e1 : tmf ((prs all L).map (·.2)) x tm0 (Dp (prs all L) D) (prs all L).length = tmf ((prs all L).map (·.2)) x tm0 Tr (prs all L).length := funext fun t => tmf_congr _ fun k q hk hq _ => by
      rw [List.getElem?_map, Option.map_eq_some_iff] at hq
      obtain ⟨⟨j, q'⟩, h1, h2⟩ := hq
      rw [dp_at h1]
      have := (List.getElem?_eq_some_iff.1 (prs_get h1)).1
      exact ⟨fun _ => trivial, fun _ => hall j (by simpa using this)⟩
    rw [← e1] at hfin
    intro K a hm hs
    exact mo_nil ⟨K, _, _, rfl, hs, .refl hm _, .normal, hfin⟩
  | @cons D i o l hi hn hedge hl' ih =>
    intro s hdn hDe hs hfl h n hF
    have hi' : all[i]? = some o := by simpa using hi
    have hdn' : Down all (fun j => D j ∨ j = i) := by
      rintro j (hj | rfl) o' ho' e' he' hb'
      · exact .inl (hdn j hj o' ho' e' he' hb')
      · rw [hi'] at ho'; cases ho'; exact .inl (hedge e' he' hb')
    obtain ⟨p, o', hp⟩ : ∃ p o', (prs all L)[p]? = some (i, o') := by
      rcases edgeOk_all hl i (List.getElem?_eq_some_iff.1 hi').1 with h1 | h1
      · cases h1
      · exact h1
    have : o' = o := by have := prs_get hp; rw [hi'] at this; cases this; rfl
    subst this
    have hreads := mreads_ok (x := x) (tm0 := tm0) hd hl hdn hp hn hedge
    rw [← mwrites_ok hd hl hdn hp hn] at ih
    cases hc : E.contains i with
    | true =>
      rw [filter_head hc] at hfl
      have hsi : E[s]? = some i := by
        have : (E.drop s)[0]? = some i := by rw [← hfl]; rfl
        simpa using this
      by_cases hsz : s < z
      rotate_left
      · have ez : z = s := by omega
        subst ez
        obtain ⟨h0, n0, g1, g2⟩ := ht.pan p i o' (Nat.zero_le _) hp hsi
        rw [hF] at g1; cases g1
        have hnd : ∀ (D' : Nat → Prop) (k : Nat) t, (∀ o', o' ∈ all → o'.dst ≠ some t) → tmf ((prs all L).map (·.2)) x tm0 D' k t = tm0 t := fun D' k t ht' => by
          have := tmf_tail (ops := (prs all L).map (·.2)) (x := x) (tm0 := tm0) (D := D') (t := t) (j := 0) (fun k' q _ hq _ => by
            rw [List.getElem?_map, Option.map_eq_some_iff] at hq
            obtain ⟨⟨j, q'⟩, h1, h2⟩ := hq
            cases h2
            exact ht' _ (List.mem_of_getElem? (prs_get h1))) k (Nat.zero_le _)
          exact this
        exact g2 _ hreads (fun t ht' => by rw [hnd _ _ t ht', hnd _ _ t ht']) i hi' l
      obtain ⟨h0, n0, h', n', g1, g2, g3⟩ := ht.effs p i o' s (Nat.zero_le _) hsz hp hsi
      rw [hF] at g1; cases g1
      have hlt := (List.getElem?_eq_some_iff.1 hsi).1
      refine g3 _ hreads i hi' l Q (ih (s + 1) hdn' (fun j e he => ?_) (by omega) ?_ h' n' g2)
      · constructor
        · rintro (h1 | h1)
          · have := (hDe j e he).1 h1; omega
          · subst h1; have := nodup_get hE he hsi; omega
        · intro h1
          by_cases ej : j = s
          · subst ej; rw [hsi] at he; cases he; exact .inr rfl
          · exact .inl ((hDe j e he).2 (by omega))
      · have := congrArg List.tail hfl
        simpa using this
    | false =>
      have hfl' : l.filter E.contains = E.drop s := by rw [← hfl]; simp only [List.filter_cons, hc]; rfl
      refine ht.ops p i o' (Nat.zero_le _) hp hc (fun e he => ?_) _ h n ⟨s, ?_, hF⟩ hreads i hi' l Q (ih s hdn' (fun j e he => ?_) hs hfl' h n hF)
      · cases hm : must all 3 e i with
        | false => rfl
        | true =>
          have h1 := must_in hdn 3 e i hm (fun o'' ho'' => by rw [hi'] at ho''; cases ho''; exact hedge)
          have := (hDe z e he).1 h1; omega
      · unfold allowed
        rw [Bool.and_eq_true, List.all_eq_true, List.all_eq_true]
        constructor
        · intro e he
          obtain ⟨j, hj⟩ := List.mem_iff_getElem?.1 he
          rw [List.getElem?_take] at hj
          split at hj
          · rename_i hjs
            cases hm : must all 3 i e with
            | false => rfl
            | true => exact absurd (must_in hdn 3 i e hm (hdn e ((hDe j e hj).2 hjs))) hn
          · cases hj
        · intro e he
          obtain ⟨j, hj⟩ := List.mem_iff_getElem?.1 he
          rw [List.getElem?_drop] at hj
          cases hm : must all 3 e i with
          | false => rfl
          | true =>
            have h1 := must_in hdn 3 e i hm (fun o'' ho'' => by rw [hi'] at ho''; cases ho''; exact hedge)
            have := (hDe (s + j) e hj).1 h1; omega
      · refine ⟨fun h1 => ?_, fun h1 => .inl ((hDe j e he).2 h1)⟩
        rcases h1 with h1 | h1
        · exact (hDe j e he).1 h1
        · subst h1
          have := List.mem_of_getElem? he
          simp at hc; exact absurd this hc

theorem orders_ok {R : Nat → Nat → Bool} (hR : ∀ d e, R d e = true → ∃ f, must all f d e = true) (E0 : List Nat) {D : Nat → Prop} {l : List Nat} (ho : Ord all.toArray D l) : ∀ (f : Nat) (E : List Nat), Down all D → (∀ e, e ∈ E ↔ e ∈ E0 ∧ ¬ D e) → (∀ e, e ∈ E0 → e < all.length) → E.length ≤ f → l.filter E0.contains ∈ ordersR R f E := by
  induction ho with
  | @nil D hall =>
    intro f E hdn hE hlt hf
    have : E = [] := by
      cases E with
      | nil => rfl
      | cons e E => have := (hE e).1 (by simp); exact absurd (hall e (by simpa using hlt e this.1)) this.2
    subst this
    cases f <;> simp [ordersR]
  | @cons D i o l hi hn hedge hl ih =>
    intro f E hdn hE hlt hf
    have hi' : all[i]? = some o := by simpa using hi
    have hdn' : Down all (fun j => D j ∨ j = i) := by
      rintro j (hj | rfl) o' ho' e' he' hb'
      · exact .inl (hdn j hj o' ho' e' he' hb')
      · rw [hi'] at ho'; cases ho'; exact .inl (hedge e' he' hb')
    cases hc : E0.contains i with
    | false =>
      rw [show (i :: l).filter E0.contains = l.filter E0.contains from by simp only [List.filter_cons, hc]; rfl]
      refine ih f E hdn' (fun e => ?_) hlt hf
      rw [hE]
      refine ⟨fun ⟨h1, h2⟩ => ⟨h1, fun h3 => h3.elim h2 fun h4 => ?_⟩, fun ⟨h1, h2⟩ => ⟨h1, fun h3 => h2 (.inl h3)⟩⟩
      subst h4; simp at hc; exact hc h1
    | true =>
      rw [filter_head hc]
      have hiE : i ∈ E := (hE i).2 ⟨by simpa using hc, hn⟩
      cases f with
      | zero => have := List.length_pos_of_mem hiE; omega
      | succ f =>
        cases hE' : E with
        | nil => rw [hE'] at hiE; cases hiE
        | cons e0 E1 =>
          rw [← hE']
          have : ordersR R (f + 1) E = (E.filter fun e => E.all fun d => Nat.beq d e || !R d e).flatMap fun e => (ordersR R f (E.filter fun d => !Nat.beq d e)).map (e :: ·) := by rw [hE']; rfl
          rw [this, List.mem_flatMap]
          refine ⟨i, List.mem_filter.2 ⟨hiE, List.all_eq_true.2 fun d hd => ?_⟩, List.mem_map.2 ⟨_, ih f (E.filter fun d => !Nat.beq d i) hdn' (fun e => ?_) hlt ?_, rfl⟩⟩
          · cases hm : R d i with
            | false => simp
            | true =>
              obtain ⟨k, hm⟩ := hR d i hm
              exact absurd (must_in hdn k d i hm (fun o' ho' => by rw [hi'] at ho'; cases ho'; exact hedge)) ((hE d).1 hd).2
          · rw [List.mem_filter, hE]
            have hb : (!Nat.beq e i) = true ↔ e ≠ i := by
              rw [Bool.not_eq_true']
              constructor
              · intro h1 h2
                rw [h2, Nat.beq_refl] at h1; cases h1
              · intro h1
                cases h2 : Nat.beq e i with
                | false => rfl
                | true => exact absurd (Nat.eq_of_beq_eq_true h2) h1
            rw [hb]
            refine ⟨fun ⟨⟨h1, h2⟩, h3⟩ => ⟨h1, fun h4 => h4.elim h2 h3⟩, fun ⟨h1, h2⟩ => ⟨⟨h1, fun h3 => h2 (.inl h3)⟩, fun h3 => h2 (.inr h3)⟩⟩
          · have hlt2 : (E.filter fun d => !Nat.beq d i).length < E.length := by
              refine List.length_filter_lt_length_iff_exists.2 ⟨i, hiE, by simp [Nat.beq_refl]⟩
            omega
theorem w_drawMR {id : Nat} {ops : Array Oper} {R : Nat → Nat → Bool} (hR : ∀ d e, R d e = true → ∃ f, must ops.toList f d e = true) (E : List Nat) {tm : Nat → AV} {h : Heap} {n : Nat} (hmx : P.follows .mixedOrders = true) (hd : drawOk ops.toList = true) (_ : E.Nodup) (hlt : (E.all fun e => decide (e < ops.toList.length)) = true)
    (hw : ∀ π, π ∈ ordersR R E.length E → ∃ L, edgeOk ops.toList.length [] (prs ops.toList L) = true ∧ (π.Nodup ∧ (∀ e, e ∈ π ↔ e ∈ E)) ∧ WM P B N m ops.toList π Q df 0 [] [] (prs ops.toList L) tm h n) : W P B N m (.region id ops true) Q ⟨tm, h, n, df⟩ := by
  intro K a hm hs
  refine mw_region_draw fun t => ?_
  rw [hmx, sched_any]
  have hb : backEdges ops.toList = true := by unfold drawOk at hd; rw [Bool.and_eq_true] at hd; exact hd.1
  have hord := linearise_ord hb t
  have hlt' : ∀ e, e ∈ E → e < ops.toList.length := fun e he => of_decide_eq_true (List.all_eq_true.1 hlt e he)
  obtain ⟨L, hl, ⟨hnd, hmem⟩, hwm⟩ := hw _ (orders_ok (all := ops.toList) hR E (by simpa using hord) E.length E (fun _ (h : False) => h.elim) (fun e => by simp) hlt' (Nat.le_refl _))
  obtain ⟨x, F, z, _, _, ⟨F', hF⟩, _, ht⟩ := hwm.told hnd _ [] tm (fun _ => .any) rfl rfl rfl
  have hcon : (List.filter E.contains (Region.linearise .any ops t)).contains = E.contains := by
    funext e
    have := hmem e
    rw [Bool.eq_iff_iff]
    simpa using this
  have hrun := told_runM (l := Region.linearise .any ops t) (D := fun _ => False) hd hl hnd ht (by simpa using hord) 0 (fun _ (h : False) => h.elim) (fun j e _ => by simp) (Nat.zero_le _) (by rw [hcon]; rfl) h n (by rw [hF]; simp)
  have e0 : tmf ((prs ops.toList L).map (·.2)) x tm (Dp (prs ops.toList L) (fun _ => False)) (prs ops.toList L).length = tm := by
    funext t'
    exact (tmf_tail (j := 0) (fun k o _ _ ⟨_, _, _, h⟩ => h.elim) _ (Nat.zero_le _))
  rw [e0] at hrun
  obtain ⟨k1, k2, hE'⟩ := drew_ok hs.rel (K.w.drawn + 1)
  have := hrun (K.at_ { K.w with drawn := K.w.drawn + 1 }) a hm ⟨hs.next, k1, hs.tr.mono hE', hs.dr.mono hE'⟩
  rw [Array.toArray_toList] at this
  exact MO.mono this fun e a' w' hq => Post.step (k2.stm hm) hq
theorem w_drawM {id : Nat} {ops : Array Oper} (E : List Nat) {tm : Nat → AV} {h : Heap} {n : Nat} (hmx : P.follows .mixedOrders = true) (hd : drawOk ops.toList = true) (hn : E.Nodup) (hlt : (E.all fun e => decide (e < ops.toList.length)) = true)
    (hw : ∀ π, π ∈ orders ops.toList E.length E → ∃ L, edgeOk ops.toList.length [] (prs ops.toList L) = true ∧ (π.Nodup ∧ (∀ e, e ∈ π ↔ e ∈ E)) ∧ WM P B N m ops.toList π Q df 0 [] [] (prs ops.toList L) tm h n) : W P B N m (.region id ops true) Q ⟨tm, h, n, df⟩ :=
  w_drawMR (fun _ _ h => ⟨3, h⟩) E hmx hd hn hlt hw
end run
end
end Go.Lg
