/- What a round's contract doesn't name stays. -/
import Derived.Test.YtlmighkbeacjnaaLgO
set_option linter.unusedVariables false
set_option linter.unusedSimpArgs false
set_option linter.unusedSectionVars false
namespace Go.Lg
open Go
theorem yc_frame {P : Program} {lid : Nat} {args : List AV} {H1 H2 : Heap} {n : Nat} {R : Bool → Heap → Nat → Prop} (hd : ∀ id, H1 id ≠ none → H2 id = none) (h : YC P lid args H1 n R) :
    YC P lid args (H1.or H2) n fun b H' n' => ∃ H1', H' = H1'.or H2 ∧ (∀ id, H1' id ≠ none → H2 id = none) ∧ R b H1' n' := by
  intro K vs hn hr hv
  have in1 : ∀ {id b}, H1 id = some b → (H1.or H2) id = some b := fun h => by simp [Heap.or, h]
  have in2 : ∀ {id b}, H2 id = some b → (H1.or H2) id = some b := fun {id b} h => by
    have : H1 id = none := by
      cases h1 : H1 id with
      | none => rfl
      | some c => have := hd id (by rw [h1]; simp); rw [this] at h; cases h
    simp [Heap.or, this, h]
  have ne1 : ∀ {id}, H1 id ≠ none → (H1.or H2) id ≠ none := fun {id} h => by
    cases h1 : H1 id with
    | none => exact absurd h1 h
    | some b => rw [in1 h1]; simp
  have ne2 : ∀ {id}, H2 id ≠ none → (H1.or H2) id ≠ none := fun {id} h => by
    cases h1 : H2 id with
    | none => exact absurd h1 h
    | some b => rw [in2 h1]; simp
  have hr1 : Rel K H1 := ⟨fun id h => hr.lt id (ne1 h), fun id h => hr.nro id (ne1 h), fun id b h => hr.br id b (in1 h), fun i j hi hj => hr.inj i j (ne1 hi) (ne1 hj), hr.ros⟩
  obtain ⟨f, tmps, as, bd, hy, hround⟩ := h K vs hn hr1 hv
  refine ⟨f, tmps, as, bd, hy, fun c cs => ?_⟩
  obtain ⟨bb, K', H1', hr', hst, hQ, hsteps⟩ := hround c cs
  have hE := hst.ext hr1
  have notOB : ∀ {id}, H2 id ≠ none → ¬ OB K H1 (K.base id) := fun {id} h2 ⟨j, hj, e⟩ => by
    have := hr.inj j id (ne1 hj) (ne2 h2) e
    subst this
    exact h2 (hd j hj)
  have bse : ∀ {id}, H2 id ≠ none → K'.base id = K.base id := fun {id} h2 => (hst.mu id (hr.lt id (ne2 h2))).1
  have sz2 : ∀ {id}, H2 id ≠ none → K.base id < K.w.heap.size := fun {id} h2 => hr.size_lt (ne2 h2)
  have notOB' : ∀ {id}, H2 id ≠ none → ¬ OB K' H1' (K'.base id) := fun {id} h2 ho => by
    rw [bse h2] at ho
    rcases hst.own _ ho with h3 | h3
    · exact notOB h2 h3
    · have := sz2 h2; omega
  have hd' : ∀ id, H1' id ≠ none → H2 id = none := fun id h1 => by
    cases h2 : H2 id with
    | none => rfl
    | some b => exact absurd ⟨id, h1, rfl⟩ (notOB' (id := id) (by rw [h2]; simp))
  have split' : ∀ {id}, (H1'.or H2) id ≠ none → H1' id ≠ none ∨ (H1' id = none ∧ H2 id ≠ none) := fun {id} h => by
    cases h1 : H1' id with
    | none => refine .inr ⟨rfl, ?_⟩; simpa [Heap.or, h1] using h
    | some b => exact .inl (by simp)
  refine ⟨bb, K', H1'.or H2, ⟨fun id h => ?_, fun id h => ?_, fun id b h => ?_, fun i j hi hj e => ?_, hr'.ros⟩, ?_, ⟨H1', rfl, hd', hQ⟩, hsteps⟩
  · rcases split' h with h1 | ⟨_, h2⟩
    · exact hr'.lt id h1
    · exact Nat.lt_of_lt_of_le (hr.lt id (ne2 h2)) hst.next
  · rcases split' h with h1 | ⟨_, h2⟩
    · exact hr'.nro id h1
    · rw [bse h2]
      intro hb
      rcases hst.ro' _ hb with h3 | h3 | h3
      · exact hr.nro id (ne2 h2) h3
      · exact notOB h2 h3
      · have := sz2 h2; omega
  · cases h1 : H1' id with
    | some c => simp only [Heap.or, h1] at h; cases h; exact hr'.br id _ h1
    | none =>
      simp only [Heap.or, h1] at h
      have h2 : H2 id ≠ none := by rw [h]; simp
      exact (hr.br id b (in2 h)).mono hE (hr.lt id (ne2 h2)) (hst.same _ (sz2 h2) (notOB h2))
  · rcases split' hi with h1 | ⟨_, h1⟩ <;> rcases split' hj with h2 | ⟨_, h2⟩
    · exact hr'.inj i j h1 h2 e
    · exact absurd ⟨i, h1, e⟩ (notOB' h2)
    · exact absurd ⟨j, h2, e.symm⟩ (notOB' h1)
    · rw [bse h1, bse h2] at e; exact hr.inj i j (ne2 h1) (ne2 h2) e
  · refine ⟨hst.next, hst.mu, hst.ro, hst.size, fun b hb hn => hst.same b hb (fun ⟨id, h1, e⟩ => hn ⟨id, ne1 h1, e⟩), ?_, fun b hb => ?_, hst.os, hst.tape, hst.output⟩
    · rintro b ⟨id, hid, rfl⟩
      rcases split' hid with h1 | ⟨_, h2⟩
      · rcases hst.own _ ⟨id, h1, rfl⟩ with ⟨j, hj, e⟩ | h3
        · exact .inl ⟨j, ne1 hj, e⟩
        · exact .inr h3
      · exact .inl ⟨id, ne2 h2, (bse h2).symm⟩
    · rcases hst.ro' b hb with h1 | ⟨j, hj, e⟩ | h1
      · exact .inl h1
      · exact .inr (.inl ⟨j, ne1 hj, e⟩)
      · exact .inr (.inr h1)
theorem or_single {H : Heap} {q : Nat} {b : Blk} (hq : H q = none) : H.or (upd noHeap q (some b)) = upd H q (some b) := by
  funext i
  unfold Heap.or upd noHeap
  by_cases e : i = q
  · subst e; rw [hq]
  · rw [if_neg e, if_neg e]; cases H i <;> rfl
theorem single_none {H : Heap} {q : Nat} {b : Blk} (h : ∀ id, H id ≠ none → upd noHeap q (some b) id = none) : H q = none := by
  cases hq : H q with
  | none => rfl
  | some c => have := h q (by rw [hq]; simp); rw [upd_same] at this; cases this
/-- A round's contract beside one more block. -/
theorem yc_beside {P : Program} {lid : Nat} {args : List AV} {H : Heap} {q : Nat} {bl : Blk} {n : Nat} {R : Bool → Heap → Nat → Prop} (hq : H q = none) (h : YC P lid args H n R) :
    YC P lid args (upd H q (some bl)) n fun b H' n' => ∃ H1, H1 q = none ∧ H' = upd H1 q (some bl) ∧ R b H1 n' := by
  have h1 := yc_frame (H2 := upd noHeap q (some bl)) (fun id hid => by
    by_cases e : id = q
    · subst e; exact absurd hq hid
    · rw [upd_ne _ _ e]; rfl) h
  rw [or_single hq] at h1
  refine h1.mono ?_
  rintro b H' n' ⟨H1, rfl, hd, hR⟩
  exact ⟨H1, single_none hd, or_single (single_none hd), hR⟩

/-- Behind code, a ghost step. -/
theorem w_postg {P : Program} {B : Fb → Prop} {N m : Nat} {Q : AEx → St → Prop} {σ : St} {c : Code} (h : W P B N m c (fun e σ => (∀ x, e ≠ .panic x) ∧ ∃ σ1, (∀ K a, m ≤ K.next → SR K N σ a → ∃ K1, K1.w = K.w ∧ SR K1 N σ1 a ∧ StM m K σ.h K1 σ1.h) ∧ Q e σ1) σ) : W P B N m c Q σ := by
  intro K a hm hs
  refine (h K a hm hs).mono ?_
  rintro e a' w' ⟨K', σ', e', rfl, hs', hst, he, hne, σ1, hg, hq⟩
  obtain ⟨K1, hw, hs1, hst1⟩ := hg K' a' hst.next' hs'
  refine ⟨K1, _, e', hw, hs1, hst.trans hst1, ?_, hq⟩
  cases he with
  | normal => exact .normal
  | exit i => exact .exit i
  | goto i => exact .goto i
  | ret => exact .ret
  | panic h => exact absurd rfl (hne _)
theorem gM {N m : Nat} {σ σ1 : St} (hg : ∀ K a, SR K N σ a → ∃ K1, K1.w = K.w ∧ SR K1 N σ1 a ∧ Step K σ.h K1 σ1.h) : ∀ K a, m ≤ K.next → SR K N σ a → ∃ K1, K1.w = K.w ∧ SR K1 N σ1 a ∧ StM m K σ.h K1 σ1.h :=
  fun K a hm hs => let ⟨K1, h1, h2, h3⟩ := hg K a hs; ⟨K1, h1, h2, h3.stm hm⟩

theorem doneD_ret {P : Program} {T : TT} (hT : TOK P T) {fn : Func} {X : AV → Prop} {rs : Array ResultVar} {xs : List AV} {tm : Nat → AV} {h : Heap} {n : Nat} {df : List Nat} (hr : fn.results = rs) (hm : Marks h df) (hres : resA T ⟨tm, killAll h df, n, []⟩ rs.toList = some xs) (hp : Pur (tup xs)) (hx : X (tup xs)) : DonePD P fn X .ret ⟨tm, h, n, df⟩ :=
  ⟨hm, tup xs, resv_of hT (by rw [hr]; exact hres), hp, hx⟩

/-- The answer told with less. -/
theorem PF.weak {P : Program} {f : FuncId} {args : List AV} {x y : AV} (h : PF P f args (fun r => r = x)) (hs : Sub x y) (hy : Pur y) : PF P f args (fun r => r = y) :=
  ⟨h.cal, fun n K vs hn hr hv => (h.run n K vs hn hr hv).mono fun _ _ ⟨K', H', r, h1, h2, h3, h4, z, hr, _, hz⟩ => ⟨K', H', .ret y, h1, h2, h3, by
    subst hr hz
    cases h4 with
    | ret hv => exact .ret (hs _ _ hv), y, rfl, hy, rfl⟩⟩
/-- The arguments told with more. -/
theorem PF.args {P : Program} {f : FuncId} {as bs : List AV} {X : AV → Prop} (h : PF P f bs X) (hs : Subs as bs) : PF P f as X :=
  ⟨h.cal, fun n K vs hn hr hv => h.run n K vs hn hr (hs.VRs hv)⟩
end Go.Lg
