/- The rule for regions that draw their order. -/
import Derived.Test.YtlmighkbeacjnaaLgG
set_option linter.unusedVariables false
set_option linter.unusedSimpArgs false
set_option linter.unusedSectionVars false
namespace Go.Lg
open Go

section
variable {P : Program} {B : Fb → Prop} {N m : Nat} {Q : AEx → St → Prop}
def Does (P : Program) (B : Fb → Prop) (N m : Nat) (ops : Array Oper) (i : Nat) (σ σ' : St) : Prop := ∀ l Q, WO P B N m ops l Q σ' → WO P B N m ops (i :: l) Q σ
/-- An operation that leaves own memory alone, wherever it comes. -/
def Calm (P : Program) (B : Fb → Prop) (N m : Nat) (all : List Oper) (A : Heap → Nat → Prop) (o : Oper) (tm : Nat → AV) (df : List Nat) (x : AV) : Prop :=
  ∀ tm' h n, A h n → (∀ t, t ∈ rd all o → tm' t = tm t) → ∀ i, all[i]? = some o → Does P B N m all.toArray i ⟨tm', h, n, df⟩ ⟨putT tm' o.dst x, h, n, df⟩
/-- The one operation that changes it. -/
def Eff (P : Program) (B : Fb → Prop) (N m : Nat) (all : List Oper) (o : Oper) (tm : Nat → AV) (h : Heap) (n : Nat) (h' : Heap) (n' : Nat) (df : List Nat) (x : AV) : Prop :=
  ∀ tm', (∀ t, t ∈ rd all o → tm' t = tm t) → ∀ i, all[i]? = some o → Does P B N m all.toArray i ⟨tm', h, n, df⟩ ⟨putT tm' o.dst x, h', n', df⟩
/-- The walk in the text's order; 'b': the change has been. -/
inductive WR (P : Program) (B : Fb → Prop) (N m : Nat) (all : List Oper) (A : Nat → Heap → Nat → Prop) (Q : AEx → St → Prop) (df : List Nat) : Bool → Nat → List Oper → (Nat → AV) → Heap → Nat → Prop
  | nil {b : Bool} {k : Nat} {tm : Nat → AV} {h : Heap} {n : Nat} (hA : b = false → ∀ j, A j h n) (hq : Q .normal ⟨tm, h, n, df⟩) : WR P B N m all A Q df b k [] tm h n
  | op {b : Bool} {k : Nat} {o : Oper} {rest : List Oper} {tm : Nat → AV} {h : Heap} {n : Nat} {x : AV} (hc : Calm P B N m all (A k) o tm df x) (hr : WR P B N m all A Q df b (k + 1) rest (putT tm o.dst x) h n) : WR P B N m all A Q df b k (o :: rest) tm h n
  | eff {k : Nat} {o : Oper} {rest : List Oper} {tm : Nat → AV} {h h' : Heap} {n n' : Nat} {x : AV} (hc : Eff P B N m all o tm h n h' n' df x) (hA : ∀ j, (must all 3 k j = false → A j h n) ∧ (must all 3 j k = false → A j h' n')) (hr : WR P B N m all A Q df true (k + 1) rest (putT tm o.dst x) h' n') : WR P B N m all A Q df false k (o :: rest) tm h n

theorem tmf_vals {ops : List Oper} {x y : Nat → AV} {tm0 : Nat → AV} {D : Nat → Prop} : ∀ k, (∀ i, i < k → x i = y i) → tmf ops x tm0 D k = tmf ops y tm0 D k := by
  intro k
  induction k with
  | zero => intro _; rfl
  | succ k ih =>
    intro h
    rw [tmf_succ, tmf_succ, ih (fun i hi => h i (by omega)), h k (by omega)]
def Tr : Nat → Prop := fun _ => True
theorem tmf_tr {ops : List Oper} {x tm0 : Nat → AV} {k : Nat} {o : Oper} (ho : ops[k]? = some o) : tmf ops x tm0 Tr (k + 1) = putT (tmf ops x tm0 Tr k) o.dst (x k) := by
  rw [tmf_succ, if_pos (show Tr k from trivial), ho]

/-- What the walk tells of each operation. -/
structure Told (P : Program) (B : Fb → Prop) (N m : Nat) (all : List Oper) (A : Nat → Heap → Nat → Prop) (Q : AEx → St → Prop) (df : List Nat) (tm0 : Nat → AV) (x : Nat → AV) (e : Option Nat) (h n h' n' : _) (k : Nat) : Prop where
  ops : ∀ i o, k ≤ i → all[i]? = some o → e ≠ some i → Calm P B N m all (A i) o (tmf all x tm0 Tr i) df (x i)
  effs : ∀ i o, all[i]? = some o → e = some i → Eff P B N m all o (tmf all x tm0 Tr i) h n h' n' df (x i)
  none_ : e = none → h' = h ∧ n' = n
  at_ : ∀ i, e = some i → k ≤ i ∧ i < all.length ∧ ∀ j, (must all 3 i j = false → A j h n) ∧ (must all 3 j i = false → A j h' n')
  fin : Q .normal ⟨tmf all x tm0 Tr all.length, h', n', df⟩
theorem WR.told {all : List Oper} {A : Nat → Heap → Nat → Prop} {df : List Nat} {b : Bool} {k : Nat} {rest : List Oper} {tm : Nat → AV} {h : Heap} {n : Nat} (hw : WR P B N m all A Q df b k rest tm h n) :
    ∀ (pre : List Oper) (tm0 y : Nat → AV), all = pre ++ rest → k = pre.length → tm = tmf all y tm0 Tr pre.length → ∃ x e h' n', (∀ i, i < pre.length → x i = y i) ∧ (b = true → e = none) ∧ (b = false → e = none → ∀ j, A j h n) ∧ Told P B N m all A Q df tm0 x e h n h' n' pre.length := by
  induction hw with
  | @nil b k tm h n hA hq =>
    intro pre tm0 y hp hk ht
    refine ⟨y, none, h, n, fun _ _ => rfl, fun _ => rfl, fun hb _ => hA hb, ⟨fun i o hi ho => ?_, fun _ _ _ h => (by cases h), fun _ => ⟨rfl, rfl⟩, fun _ h => (by cases h), ?_⟩⟩
    · have := (List.getElem?_eq_some_iff.1 ho).1
      rw [hp] at this; simp at this; omega
    · have : all.length = pre.length := by rw [hp]; simp
      rw [this, ← ht]; exact hq
  | @op b k o rest tm h n x hc hr ih =>
    intro pre tm0 y hp hk ht
    have ho : all[pre.length]? = some o := by rw [hp]; simp
    obtain ⟨x', e, h', n', h1, h2, h2c, h3⟩ := ih (pre ++ [o]) tm0 (upd y pre.length x) (by rw [hp]; simp) (by simp [hk]) (by
      rw [List.length_append, List.length_singleton, tmf_tr ho, upd_same, ht]
      rw [tmf_vals (x := upd y pre.length x) (y := y) pre.length fun i hi => upd_ne _ _ (by omega)])
    have hx : x' pre.length = x := by rw [h1 pre.length (by simp), upd_same]
    have hxy : ∀ i, i < pre.length → x' i = y i := fun i hi => by rw [h1 i (by simp; omega), upd_ne _ _ (by omega)]
    refine ⟨x', e, h', n', hxy, h2, h2c, ⟨fun i o' hi ho' he => ?_, h3.effs, h3.none_, fun i he => ?_, h3.fin⟩⟩
    · by_cases ei : i = pre.length
      · subst ei
        rw [ho] at ho'; cases ho'
        rw [hx, tmf_vals _ hxy, ← ht, ← hk]; exact hc
      · exact h3.ops i o' (by simp; omega) ho' he
    · have := h3.at_ i he; simp at this; exact ⟨by omega, this.2⟩
  | @eff k o rest tm h h' n n' x hc hA hr ih =>
    intro pre tm0 y hp hk ht
    have ho : all[pre.length]? = some o := by rw [hp]; simp
    obtain ⟨x', e, h2', n2', h1, h2, _, h3⟩ := ih (pre ++ [o]) tm0 (upd y pre.length x) (by rw [hp]; simp) (by simp [hk]) (by
      rw [List.length_append, List.length_singleton, tmf_tr ho, upd_same, ht]
      rw [tmf_vals (x := upd y pre.length x) (y := y) pre.length fun i hi => upd_ne _ _ (by omega)])
    have hx : x' pre.length = x := by rw [h1 pre.length (by simp), upd_same]
    have hxy : ∀ i, i < pre.length → x' i = y i := fun i hi => by rw [h1 i (by simp; omega), upd_ne _ _ (by omega)]
    have he : e = none := h2 rfl
    subst he
    obtain ⟨rfl, rfl⟩ := h3.none_ rfl
    refine ⟨x', some pre.length, _, _, hxy, fun h => (by cases h), fun _ h => (by cases h), ⟨fun i o' hi ho' he => ?_, fun i o' ho' he => ?_, fun h => (by cases h), fun i he => ?_, h3.fin⟩⟩
    · have ei : i ≠ pre.length := fun e => he (by rw [e])
      exact h3.ops i o' (by simp; omega) ho' (by simp)
    · cases he
      rw [ho] at ho'; cases ho'
      rw [hx, tmf_vals _ hxy, ← ht]; exact hc
    · cases he
      exact ⟨Nat.le_refl _, (List.getElem?_eq_some_iff.1 ho).1, hk ▸ hA⟩

section main
variable {all : List Oper} {A : Nat → Heap → Nat → Prop} {df : List Nat} {tm0 x : Nat → AV} {e : Option Nat} {h h' : Heap} {n n' : Nat}
theorem reads_ok (hd : drawOk all = true) {D : Nat → Prop} (hdn : Down all D) {i : Nat} {o : Oper} (ho : all[i]? = some o) (hi : ¬ D i) (he : ∀ e, e ∈ o.after.toList → Region.binds .any e = true → D e.on) :
    ∀ t, t ∈ rd all o → tmf all x tm0 D all.length t = tmf all x tm0 Tr i t := by
  intro t ht
  have hb : backEdges all = true := by unfold drawOk at hd; rw [Bool.and_eq_true] at hd; exact hd.1
  have hlt : i < all.length := (List.getElem?_eq_some_iff.1 ho).1
  have h1 : tmf all x tm0 D all.length t = tmf all x tm0 D i t := tmf_tail (fun k q hk hq hD hdst => by
    rcases drawOk_spec hd ho hq (.inr ht) hdst with rfl | h1 | h1
    · exact hi hD
    · have := must_lt hb 3 k i h1; omega
    · exact hi (must_in hdn 3 i k h1 (hdn k hD))) all.length (by omega)
  rw [h1]
  exact tmf_congr i fun k q hk hq hdst => ⟨fun _ => trivial, fun _ => by
    rcases drawOk_spec hd ho hq (.inr ht) hdst with rfl | h1 | h1
    · omega
    · exact must_in hdn 3 k i h1 (fun o' ho' => by rw [ho] at ho'; cases ho'; exact he)
    · have := must_lt hb 3 i k h1; omega⟩
theorem writes_ok (hd : drawOk all = true) {D : Nat → Prop} (hdn : Down all D) {i : Nat} {o : Oper} (ho : all[i]? = some o) (hi : ¬ D i) :
    putT (tmf all x tm0 D all.length) o.dst (x i) = tmf all x tm0 (fun j => D j ∨ j = i) all.length := by
  have hb : backEdges all = true := by unfold drawOk at hd; rw [Bool.and_eq_true] at hd; exact hd.1
  have hlt : i < all.length := (List.getElem?_eq_some_iff.1 ho).1
  funext t
  by_cases ht : o.dst = some t
  · rw [ht, putT_eq]
    have h1 : tmf all x tm0 (fun j => D j ∨ j = i) all.length t = tmf all x tm0 (fun j => D j ∨ j = i) (i + 1) t := tmf_tail (fun k q hk hq hD hdst => by
      rcases hD with hD | rfl
      · rcases drawOk_spec hd ho hq (.inl ht) hdst with rfl | h1 | h1
        · omega
        · have := must_lt hb 3 k i h1; omega
        · exact hi (must_in hdn 3 i k h1 (hdn k hD))
      · omega) all.length (by omega)
    rw [h1, tmf_succ, if_pos (.inr rfl), ho]
    simp only [ht]
    rw [putT_eq]
  · rw [putT_ne ht]
    exact tmf_congr _ fun k q hk hq hdst => ⟨fun h => .inl h, fun h => by
      rcases h with h | rfl
      · exact h
      · rw [ho] at hq; cases hq; exact absurd hdst ht⟩
open Classical in
theorem told_run (hd : drawOk all = true) (ht : Told P B N m all A Q df tm0 x e h n h' n' 0) (hA : e = none → ∀ k, A k h n) {D : Nat → Prop} {l : List Nat} (hl : Ord all.toArray D l) (hdn : Down all D) :
    WO P B N m all.toArray l Q ⟨tmf all x tm0 D all.length, if (∃ i, e = some i ∧ D i) then h' else h, if (∃ i, e = some i ∧ D i) then n' else n, df⟩ := by
  induction hl with
  | @nil D hall =>
    have hfin := ht.fin
    have e1 : tmf all x tm0 D all.length = tmf all x tm0 Tr all.length := funext fun t => tmf_congr _ fun k q hk hq _ => ⟨fun _ => trivial, fun _ => hall k (by simpa using hk)⟩
    rw [← e1] at hfin
    intro K a hm hs
    have : (⟨tmf all x tm0 D all.length, if (∃ i, e = some i ∧ D i) then h' else h, if (∃ i, e = some i ∧ D i) then n' else n, df⟩ : St) = ⟨tmf all x tm0 D all.length, h', n', df⟩ := by
      cases he : e with
      | none => obtain ⟨rfl, rfl⟩ := ht.none_ he; simp
      | some i =>
        have := ht.at_ i he
        have hDi : D i := hall i (by simpa using this.2.1)
        rw [if_pos ⟨i, rfl, hDi⟩, if_pos ⟨i, rfl, hDi⟩]
    rw [this] at hs ⊢
    exact mo_nil ⟨K, _, _, rfl, hs, .refl hm _, .normal, hfin⟩
  | @cons D i o l hi hn hedge hl ih =>
    have hi' : all[i]? = some o := by simpa using hi
    have hdn' : Down all (fun j => D j ∨ j = i) := by
      rintro j (hj | rfl) o' ho' e' he' hb'
      · exact .inl (hdn j hj o' ho' e' he' hb')
      · rw [hi'] at ho'; cases ho'; exact .inl (hedge e' he' hb')
    have ih := ih hdn'
    rw [← writes_ok hd hdn hi' hn] at ih
    have hreads := reads_ok (x := x) (tm0 := tm0) hd hdn hi' hn hedge
    by_cases he : e = some i
    · have hnot : ¬ ∃ j, e = some j ∧ D j := by
        rintro ⟨j, h1, h2⟩; rw [he] at h1; cases h1; exact hn h2
      have hyes : ∃ j, e = some j ∧ (D j ∨ j = i) := ⟨i, he, .inr rfl⟩
      rw [if_pos hyes, if_pos hyes] at ih
      rw [if_neg hnot, if_neg hnot]
      exact ht.effs i o hi' he _ hreads i hi' l Q ih
    · have hiff : (∃ j, e = some j ∧ (D j ∨ j = i)) ↔ ∃ j, e = some j ∧ D j := by
        constructor
        · rintro ⟨j, h1, h2 | rfl⟩
          · exact ⟨j, h1, h2⟩
          · exact absurd h1 he
        · rintro ⟨j, h1, h2⟩; exact ⟨j, h1, .inl h2⟩
      simp only [hiff] at ih
      refine ht.ops i o (Nat.zero_le _) hi' he _ _ _ ?_ hreads i hi' l Q ih
      by_cases hc : ∃ j, e = some j ∧ D j
      · rw [if_pos hc, if_pos hc]
        obtain ⟨j, h1, hDj⟩ := hc
        refine ((ht.at_ j h1).2.2 i).2 ?_
        cases hm : must all 3 i j with
        | false => rfl
        | true => exact absurd (must_in hdn 3 i j hm (hdn j hDj)) hn
      · rw [if_neg hc, if_neg hc]
        cases he' : e with
        | none => exact hA he' i
        | some j =>
          refine ((ht.at_ j he').2.2 i).1 ?_
          cases hm : must all 3 j i with
          | false => rfl
          | true => exact absurd ⟨j, he', must_in hdn 3 j i hm (fun o' ho' => by rw [hi'] at ho'; cases ho'; exact hedge)⟩ hc
theorem w_draw {id : Nat} {ops : Array Oper} {tm : Nat → AV} (hmx : P.follows .mixedOrders = true) (hd : drawOk ops.toList = true) (hw : WR P B N m ops.toList A Q df false 0 ops.toList tm h n) : W P B N m (.region id ops true) Q ⟨tm, h, n, df⟩ := by
  intro K a hm hs
  refine mw_region_draw fun t => ?_
  rw [hmx, sched_any]
  have hb : backEdges ops.toList = true := by unfold drawOk at hd; rw [Bool.and_eq_true] at hd; exact hd.1
  obtain ⟨x, e, h', n', _, _, hA, ht⟩ := hw.told [] tm (fun _ => .any) rfl rfl rfl
  have hrun := told_run hd ht (hA rfl) (D := fun _ => False) (l := Region.linearise .any ops t) (by simpa using linearise_ord hb t) (fun _ h => h.elim)
  have e0 : tmf ops.toList x tm (fun _ => False) ops.toList.length = tm := by
    funext t'
    exact (tmf_tail (j := 0) (fun k o _ _ h => h.elim) _ (Nat.zero_le _))
  rw [e0] at hrun
  simp only [and_false, exists_false, if_false] at hrun
  obtain ⟨k1, k2, hE⟩ := drew_ok hs.rel (K.w.drawn + 1)
  have := hrun (K.at_ { K.w with drawn := K.w.drawn + 1 }) a hm ⟨hs.next, k1, hs.tr.mono hE, hs.dr.mono hE⟩
  rw [Array.toArray_toList] at this
  exact MO.mono this fun e a' w' hq => Post.step (k2.stm hm) hq
end main
end
end Go.Lg
