/- Regions that draw their order: one walk in the text's order serves every order. -/
import Derived.Test.YtlmighkbeacjnaaLgF
set_option linter.unusedVariables false
set_option linter.unusedSimpArgs false
set_option linter.unusedSectionVars false
namespace Go.Lg
open Go

/-! orders -/
inductive Ord (ops : Array Oper) : (Nat → Prop) → List Nat → Prop
  | nil {D : Nat → Prop} (h : ∀ i, i < ops.size → D i) : Ord ops D []
  | cons {D : Nat → Prop} {i : Nat} {o : Oper} {l : List Nat} (hi : ops[i]? = some o) (hn : ¬ D i) (he : ∀ e, e ∈ o.after.toList → Region.binds .any e = true → D e.on) (h : Ord ops (fun j => D j ∨ j = i) l) : Ord ops D (i :: l)
def backEdges (ops : List Oper) : Bool := (ops.zipIdx).all fun p => p.1.after.toList.all fun e => !Region.binds .any e || decide (e.on < p.2)
theorem backEdges_spec {ops : List Oper} (h : backEdges ops = true) {i : Nat} {o : Oper} (ho : ops[i]? = some o) {e : Edge} (he : e ∈ o.after.toList) (hb : Region.binds .any e = true) : e.on < i := by
  unfold backEdges at h
  rw [List.all_eq_true] at h
  have hm : (o, i) ∈ ops.zipIdx := by
    rw [List.mem_iff_getElem?]
    exact ⟨i, by rw [List.getElem?_zipIdx, ho]; simp⟩
  have := h _ hm
  rw [List.all_eq_true] at this
  have := this e he
  simp only [hb, Bool.not_true, Bool.false_or, decide_eq_true_eq] at this
  exact this
theorem Ord.congr {ops : Array Oper} {D D' : Nat → Prop} {l : List Nat} (h : Ord ops D l) (hd : ∀ i, D i ↔ D' i) : Ord ops D' l := by
  have : D = D' := funext fun i => propext (hd i)
  exact this ▸ h
theorem go_ord {ops : Array Oper} (hb : backEdges ops.toList = true) : ∀ (fuel t : Nat) (listed : Array Bool) (acc : List Nat), listed.size = ops.size → (∃ S : List Nat, S.Nodup ∧ (∀ i, i ∈ S ↔ listed[i]? = some false) ∧ S.length ≤ fuel) →
    ∃ l, Region.linearise.go .any ops fuel t listed acc = acc.reverse ++ l ∧ Ord ops (fun i => listed[i]? = some true) l
  | 0, t, listed, acc, hs, ⟨S, hS, hS2, hS3⟩ => by
    refine ⟨[], by simp [Region.linearise.go], .nil fun i hi => ?_⟩
    have hSn : S = [] := List.eq_nil_of_length_eq_zero (by omega)
    have hi' : i < listed.size := by omega
    have h1 : listed[i]? = some listed[i] := Array.getElem?_eq_getElem hi'
    cases hv : listed[i] with
    | true => rw [h1, hv]
    | false => have := (hS2 i).2 (by rw [h1, hv]); rw [hSn] at this; simp at this
  | fuel + 1, t, listed, acc, hs, ⟨S, hS, hS2, hS3⟩ => by
    unfold Region.linearise.go
    generalize hrs : ((List.range ops.size).filter fun i => !listed.getD i true && ((ops[i]?).map (·.after.all fun e => !Region.binds .any e || listed.getD e.on false)).getD false) = rs
    have hmem : ∀ i, i ∈ rs → ∃ o, ops[i]? = some o ∧ listed[i]? = some false ∧ ∀ e, e ∈ o.after.toList → Region.binds .any e = true → listed[e.on]? = some true := by
      intro i hi
      rw [← hrs, List.mem_filter, List.mem_range] at hi
      obtain ⟨hlt, hi⟩ := hi
      rw [Bool.and_eq_true] at hi
      have hlt' : i < listed.size := by omega
      refine ⟨ops[i], Array.getElem?_eq_getElem hlt, ?_, fun e he hbe => ?_⟩
      · have h1 : listed[i]? = some listed[i] := Array.getElem?_eq_getElem hlt'
        have h2 := hi.1
        rw [Array.getD_eq_getD_getElem?, h1] at h2
        simp at h2
        rw [h1, h2]
      · have h2 := hi.2
        rw [Array.getElem?_eq_getElem hlt] at h2
        simp only [Option.map_some, Option.getD_some] at h2
        rw [Array.all_eq_true'] at h2
        have := h2 e (by simpa using he)
        rw [hbe] at this
        simp only [Bool.not_true, Bool.false_or] at this
        rw [Array.getD_eq_getD_getElem?] at this
        cases hh : listed[e.on]? with
        | none => rw [hh] at this; simp at this
        | some b => rw [hh] at this; simp at this; rw [this]
    cases hr : rs[t % rs.length]? with
    | none =>
      have hemp : rs = [] := by
        cases hc : rs with
        | nil => rfl
        | cons a r =>
          have : t % rs.length < rs.length := Nat.mod_lt _ (by rw [hc]; simp)
          rw [List.getElem?_eq_getElem this] at hr; cases hr
      refine ⟨[], by dsimp only; rw [hr]; simp, .nil fun i hi => ?_⟩
      have hi' : i < listed.size := by omega
      -- the least one not listed would be ready
      have key : ∀ k, ∀ i, i < k → i < ops.size → listed[i]? = some true := by
        intro k
        induction k with
        | zero => intro i hi; omega
        | succ k ih =>
          intro i hik hio
          by_cases hlt : i < k
          · exact ih i hlt hio
          · have e : i = k := by omega
            subst e
            have hi' : i < listed.size := by omega
            have h1 : listed[i]? = some listed[i] := Array.getElem?_eq_getElem hi'
            cases hv : listed[i] with
            | true => rw [h1, hv]
            | false =>
              exfalso
              have : i ∈ rs := by
                rw [← hrs, List.mem_filter, List.mem_range]
                refine ⟨hio, ?_⟩
                rw [Bool.and_eq_true]
                refine ⟨by rw [Array.getD_eq_getD_getElem?, h1, hv]; rfl, ?_⟩
                rw [Array.getElem?_eq_getElem hio]
                simp only [Option.map_some, Option.getD_some]
                rw [Array.all_eq_true']
                intro e he
                cases hbe : Region.binds .any e with
                | false => simp
                | true =>
                  have hlt := backEdges_spec hb (i := i) (o := ops[i]) (by simp) (e := e) (by simpa using he) hbe
                  have := ih e.on hlt (by omega)
                  simp [Array.getD_eq_getD_getElem?, this]
              rw [hemp] at this; simp at this
      exact key (i + 1) i (by omega) hi
    | some i =>
      obtain ⟨o, ho, hnl, hedge⟩ := hmem i (List.mem_of_getElem? hr)
      have hil : i < listed.size := (Array.getElem?_eq_some_iff.1 hnl).1
      have hset : ∀ j, (listed.setIfInBounds i true)[j]? = if j = i then some true else listed[j]? := by
        intro j
        rw [Array.getElem?_setIfInBounds]
        by_cases e : i = j
        · subst e; simp [hil]
        · rw [if_neg e, if_neg (Ne.symm e)]
      obtain ⟨l, h1, h2⟩ := go_ord hb fuel (t / rs.length) (listed.setIfInBounds i true) (i :: acc) (by simpa using hs) ⟨S.erase i, hS.erase i, fun j => by
        rw [hS.mem_erase_iff, hset, hS2]
        by_cases e : j = i
        · subst e; simp
        · simp [e], by
        rw [List.length_erase_of_mem ((hS2 i).2 hnl)]; omega⟩
      refine ⟨i :: l, by dsimp only; rw [hr]; dsimp only; rw [h1]; simp, .cons ho (by rw [hnl]; simp) hedge (h2.congr fun j => ?_)⟩
      rw [hset]
      by_cases e : j = i
      · subst e; simp
      · simp [e]
theorem linearise_ord {ops : Array Oper} (hb : backEdges ops.toList = true) (t : Nat) : Ord ops (fun _ => False) (Region.linearise .any ops t) := by
  obtain ⟨l, h1, h2⟩ := go_ord hb ops.size t (Array.replicate ops.size false) [] (by simp) ⟨List.range ops.size, List.nodup_range, fun i => by
    rw [List.mem_range, Array.getElem?_replicate]
    by_cases h : i < ops.size <;> simp [h], by simp⟩
  unfold Region.linearise
  rw [h1]
  simp only [List.reverse_nil, List.nil_append]
  refine h2.congr fun i => ?_
  rw [Array.getElem?_replicate]
  by_cases h : i < ops.size <;> simp [h]
theorem sched_any {ops : Array Oper} (t : Nat) : Region.schedule true ops t = Region.linearise .any ops t := by simp [Region.schedule]

/-! what an operation reads and writes -/
def rdOf : List Operand → List Tmp
  | [] => []
  | .tmp t :: r => t :: rdOf r
  | _ :: r => rdOf r
theorem mem_rdOf {t : Tmp} : ∀ {l : List Operand}, Operand.tmp t ∈ l → t ∈ rdOf l
  | x :: r, h => by
    rcases List.mem_cons.1 h with h1 | h1
    · subst h1; simp [rdOf]
    · cases x <;> simp [rdOf, mem_rdOf h1]
/-- The slots that an operation reads (its guard's too). -/
def rd (all : List Oper) (o : Oper) : List Tmp := (match o.guard with
  | some (j, _) => (gslot all j).toList
  | none => []) ++ rdOf o.op.operands.toList
def must (ops : List Oper) : Nat → Nat → Nat → Bool
  | 0, _, _ => false
  | f + 1, i, j => match ops[j]? with
    | some o => o.after.toList.any fun e => Region.binds .any e && (Nat.beq e.on i || must ops f i e.on)
    | none => false
/-- Every two that touch a slot which one of them writes stand in order. -/
def drawOk (ops : List Oper) : Bool := backEdges ops && ops.zipIdx.all fun p => (p.1.dst.toList ++ rd ops p.1).all fun t => ops.zipIdx.all fun q =>
  match q.1.dst with
  | some d => !(Nat.beq d t) || Nat.beq q.2 p.2 || must ops 3 q.2 p.2 || must ops 3 p.2 q.2
  | none => true
theorem must_lt {ops : List Oper} (hb : backEdges ops = true) : ∀ (f i j : Nat), must ops f i j = true → i < j
  | 0, _, _, h => by cases h
  | f + 1, i, j, h => by
    unfold must at h
    split at h
    · rename_i o ho
      rw [List.any_eq_true] at h
      obtain ⟨e, he, h⟩ := h
      rw [Bool.and_eq_true, Bool.or_eq_true] at h
      have hlt := backEdges_spec hb ho he h.1
      rcases h.2 with h1 | h1
      · have := Nat.eq_of_beq_eq_true h1; omega
      · have := must_lt hb f i e.on h1; omega
    · cases h
def Down (ops : List Oper) (D : Nat → Prop) : Prop := ∀ j, D j → ∀ o, ops[j]? = some o → ∀ e, e ∈ o.after.toList → Region.binds .any e = true → D e.on
theorem must_in {ops : List Oper} {D : Nat → Prop} (hd : Down ops D) : ∀ (f i j : Nat), must ops f i j = true → (∀ o, ops[j]? = some o → ∀ e, e ∈ o.after.toList → Region.binds .any e = true → D e.on) → D i
  | 0, _, _, h, _ => by cases h
  | f + 1, i, j, h, hj => by
    unfold must at h
    split at h
    · rename_i o ho
      rw [List.any_eq_true] at h
      obtain ⟨e, he, h⟩ := h
      rw [Bool.and_eq_true, Bool.or_eq_true] at h
      have h0 := hj o ho e he h.1
      rcases h.2 with h1 | h1
      · have := Nat.eq_of_beq_eq_true h1; rw [← this]; exact h0
      · exact must_in hd f i e.on h1 (hd e.on h0)
    · cases h
theorem drawOk_spec {ops : List Oper} (h : drawOk ops = true) {i j : Nat} {p q : Oper} (hp : ops[i]? = some p) (hq : ops[j]? = some q) {t : Tmp} (ht : p.dst = some t ∨ t ∈ rd ops p) (hd : q.dst = some t) : j = i ∨ must ops 3 j i = true ∨ must ops 3 i j = true := by
  unfold drawOk at h
  rw [Bool.and_eq_true, List.all_eq_true] at h
  have m1 : ∀ {k : Nat} {o : Oper}, ops[k]? = some o → (o, k) ∈ ops.zipIdx := fun {k o} hk => by
    rw [List.mem_iff_getElem?]; exact ⟨k, by rw [List.getElem?_zipIdx, hk]; simp⟩
  have h1 := h.2 _ (m1 hp)
  rw [List.all_eq_true] at h1
  have h2 := h1 t (by
    rw [List.mem_append]
    rcases ht with e | e
    · left; rw [e]; simp
    · right; exact e)
  rw [List.all_eq_true] at h2
  have h3 := h2 _ (m1 hq)
  simp only [hd] at h3
  simp only [Bool.or_eq_true, Bool.not_eq_true'] at h3
  rcases h3 with ((h3 | h3) | h3) | h3
  · rw [show Nat.beq t t = true from Nat.beq_refl t] at h3; cases h3
  · exact .inl (Nat.eq_of_beq_eq_true h3)
  · exact .inr (.inl h3)
  · exact .inr (.inr h3)

/-! the slots behind a set of operations -/
open Classical in
noncomputable def tmf (ops : List Oper) (x : Nat → AV) (tm0 : Nat → AV) (D : Nat → Prop) : Nat → (Nat → AV)
  | 0 => tm0
  | k + 1 => if D k then (match ops[k]? with | some o => putT (tmf ops x tm0 D k) o.dst (x k) | none => tmf ops x tm0 D k) else tmf ops x tm0 D k
section tmf
variable {ops : List Oper} {x : Nat → AV} {tm0 : Nat → AV}
theorem putT_ne {tm : Nat → AV} {d : Option Tmp} {y : AV} {t : Nat} (h : d ≠ some t) : putT tm d y t = tm t := by
  cases d with
  | none => rfl
  | some d => exact upd_ne _ _ (fun e => h (by rw [e]))
theorem putT_eq {tm : Nat → AV} {y : AV} {t : Nat} : putT tm (some t) y t = y := upd_same _ _ _
theorem putT_at {tm tm' : Nat → AV} {d : Option Tmp} {y : AV} {t : Nat} (h : tm t = tm' t) : putT tm d y t = putT tm' d y t := by
  by_cases e : d = some t
  · subst e; rw [putT_eq, putT_eq]
  · rw [putT_ne e, putT_ne e, h]
open Classical in
theorem tmf_succ {D : Nat → Prop} {k : Nat} : tmf ops x tm0 D (k + 1) = if D k then (match ops[k]? with | some o => putT (tmf ops x tm0 D k) o.dst (x k) | none => tmf ops x tm0 D k) else tmf ops x tm0 D k := by
  conv => lhs; unfold tmf
theorem tmf_step {D : Nat → Prop} {k t : Nat} (h : ∀ o, ops[k]? = some o → D k → o.dst ≠ some t) : tmf ops x tm0 D (k + 1) t = tmf ops x tm0 D k t := by
  rw [tmf_succ]
  split
  · rename_i hD
    split
    · rename_i o ho; exact putT_ne (h o ho hD)
    · rfl
  · rfl
theorem tmf_tail {D : Nat → Prop} {t : Nat} {j : Nat} (h : ∀ k o, j ≤ k → ops[k]? = some o → D k → o.dst ≠ some t) : ∀ n, j ≤ n → tmf ops x tm0 D n t = tmf ops x tm0 D j t := by
  intro n hn
  induction n with
  | zero => have : j = 0 := by omega
            subst this; rfl
  | succ n ih =>
    by_cases e : j = n + 1
    · subst e; rfl
    · rw [tmf_step (fun o ho hD => h n o (by omega) ho hD)]; exact ih (by omega)
theorem tmf_congr {D D' : Nat → Prop} {t : Nat} : ∀ n, (∀ k o, k < n → ops[k]? = some o → o.dst = some t → (D k ↔ D' k)) → tmf ops x tm0 D n t = tmf ops x tm0 D' n t := by
  intro n
  induction n with
  | zero => intro _; rfl
  | succ n ih =>
    intro h
    have ih := ih fun k o hk => h k o (by omega)
    cases ho : ops[n]? with
    | none => rw [tmf_succ, tmf_succ]; simp only [ho]; split <;> split <;> exact ih
    | some o =>
      by_cases hd : o.dst = some t
      · have := h n o (by omega) ho hd
        rw [tmf_succ, tmf_succ]
        simp only [ho]
        by_cases hD : D n
        · rw [if_pos hD, if_pos (this.1 hD)]; exact putT_at ih
        · rw [if_neg hD, if_neg (fun h => hD (this.2 h))]; exact ih
      · rw [tmf_step (fun o' ho' _ => by rw [ho] at ho'; cases ho'; exact hd), tmf_step (fun o' ho' _ => by rw [ho] at ho'; cases ho'; exact hd)]; exact ih
end tmf
end Go.Lg
