/- States told by the slots that count alone; dropping slots that nobody reads any more. -/
import Derived.Test.YtlmighkbeacjnaaLgV
set_option linter.unusedVariables false
set_option linter.unusedSimpArgs false
set_option linter.unusedSectionVars false
namespace Go.Lg
open Go
def St.ofS (l : List (Nat × AV)) (hs : List (Option Blk)) (df : List Nat) : St := ⟨sp l, hl hs, hs.length, df⟩
def fitsS (r : List Nat) (tm : Nat → AV) : List (Nat × AV) → Prop
  | [] => True
  | (k, x) :: l => SubR r (tm k) x ∧ fitsS r tm l
theorem fitsS_get {r : List Nat} {tm : Nat → AV} : ∀ {l : List (Nat × AV)}, fitsS r tm l → ∀ t, SubR r (tm t) (sp l t)
  | [], _, t => SubR.any _
  | (k, x) :: l, h, t => by
    rw [sp_cons]
    cases hb : t == k with
    | true => rw [show t = k by simpa using hb]; exact h.1
    | false => exact fitsS_get h.2 t
def CanS (m : Nat) (σ : St) (l : List (Nat × AV)) (hs : List (Option Blk)) (df : List Nat) : Prop :=
  ∃ r : List Nat, r.length = hs.length ∧ r.Nodup ∧ m ≤ r.length ∧ (∀ i, i < m → r[i]? = some i) ∧ fitsS r σ.tm l ∧ fitsH r σ.h 0 hs ∧ df.map (fun i => r[i]?) = σ.df.map some
theorem CanS.ok {N m : Nat} {σ : St} {l : List (Nat × AV)} {hs : List (Option Blk)} {df : List Nat} (h : CanS m σ l hs df) : ∀ K a, m ≤ K.next → SR K N σ a → ∃ K1, K1.w = K.w ∧ SR K1 N (St.ofS l hs df) a ∧ StM m K σ.h K1 (St.ofS l hs df).h := by
  intro K a hm hsr
  obtain ⟨r, hrl, hnd, hmr, hid, hf, hh, hdf⟩ := h
  have key : ∀ i, hl hs i ≠ none → ∃ j b0 b, hl hs i = some b ∧ r[i]? = some j ∧ r.getD i i = j ∧ σ.h j = some b0 ∧ SubB r b0 b := by
    intro i hi
    cases hb : hl hs i with
    | none => exact absurd hb hi
    | some b =>
      obtain ⟨j, b0, h1, h2, h3⟩ := fitsH_get hh i b (hl_ne.1 hb)
      rw [Nat.zero_add] at h1
      exact ⟨j, b0, b, rfl, h1, by simp [h1], h2, h3⟩
  have hrel : Rel (K.ren r) (hl hs) := by
    refine ⟨fun i hi => ?_, fun i hi => ?_, fun i b hb => ?_, fun i j hi hj e => ?_, hsr.rel.ros⟩
    · obtain ⟨j, b0, b, _, h1, _⟩ := key i hi; exact (List.getElem?_eq_some_iff.1 h1).1
    · obtain ⟨j, b0, b, _, h1, h2, h3, _⟩ := key i hi
      show ¬ K.ro (K.base (r.getD i i))
      rw [h2]; exact hsr.rel.nro j (by rw [h3]; simp)
    · obtain ⟨j, b0, b', hb', h1, h2, h3, h4⟩ := key i (by rw [hb]; simp)
      rw [hb] at hb'; cases hb'
      cases h4 with
      | @cells xs ys e hxy =>
        obtain ⟨arr, fr, ha, ht, hz, hlen, hv⟩ := hsr.rel.br j _ h3
        obtain ⟨g1, g2⟩ := hxy.get
        refine ⟨arr, fr, ?_, ht, ?_, ?_, fun k y hy => ?_⟩
        · show K.w.heap[K.base (r.getD i i)]? = _; rw [h2]; exact ha
        · show arr.size = K.bsz (r.getD i i); rw [h2]; exact hz
        · show K.boff (r.getD i i) + ys.length ≤ arr.size; rw [h2, ← g1]; exact hlen
        · obtain ⟨x, hx, hxy'⟩ := g2 k y hy
          obtain ⟨v, hv1, hv2⟩ := hv k x hx
          exact ⟨v, by show arr[K.boff (r.getD i i) + k]? = _; rw [h2]; exact hv1, hxy' K v hv2⟩
      | deferred =>
        have := hsr.rel.br j _ h3
        show K.w.heap[K.base (r.getD i i)]? = _
        rw [h2]; exact this
      | @loop l tm hxy =>
        obtain ⟨fn, tmps, defers, ha, ht⟩ := hsr.rel.br j _ h3
        refine ⟨fn, tmps, defers, ?_, ht.1, fun t => hxy t K _ (ht.2 t)⟩
        show K.w.heap[K.base (r.getD i i)]? = _
        rw [h2]; exact ha
    · obtain ⟨i', b0, b, _, h1, h2, h3, _⟩ := key i hi
      obtain ⟨j', c0, c, _, g1, g2, g3, _⟩ := key j hj
      have e : K.base (r.getD i i) = K.base (r.getD j j) := e
      rw [h2, g2] at e
      have := hsr.rel.inj i' j' (by rw [h3]; simp) (by rw [g3]; simp) e
      subst this
      obtain ⟨hi', e1⟩ := List.getElem?_eq_some_iff.1 h1
      obtain ⟨hj', e2⟩ := List.getElem?_eq_some_iff.1 g1
      exact (List.getElem_inj hnd (h₀ := hi') (h₁ := hj')).1 (e1.trans e2.symm)
  refine ⟨K.ren r, rfl, ⟨hrl, hrel, ⟨hsr.tr.1, fun t => ?_⟩, ?_⟩, ⟨hm, hmr, fun i hi => ?_, fun _ h => h, Nat.le_refl _, fun _ _ _ => rfl, fun b hb => ?_, fun b hb => .inl hb, rfl, rfl, rfl⟩⟩
  · exact fitsS_get hf t K _ (hsr.tr.2 t)
  · exact DR.ren hdf hsr.dr
  · have := hid i hi
    simp [Ctx.ren, this]
  · obtain ⟨i, hi, rfl⟩ := hb
    obtain ⟨j, b0, b, _, h1, h2, h3, _⟩ := key i hi
    exact .inl ⟨j, by rw [h3]; simp, by show K.base j = K.base (r.getD i i); rw [h2]⟩

section
variable {P : Program} {B : Fb → Prop} {N m : Nat} {Q : AEx → St → Prop} {σ : St}
theorem w_cutS {c : Code} (l : List (Nat × AV)) (hs : List (Option Blk)) (df : List Nat) (hc : CanS m σ l hs df) (h : W P B N m c Q (St.ofS l hs df)) : W P B N m c Q σ := W.ghostM hc.ok h
/-- A loop over data 's', with a measure; the slots that count by a list. -/
theorem w_loopS {S : Type} {c : Code} (L : S → List (Nat × AV)) (Hs : S → List (Option Blk)) (df : List Nat) (Inv : S → Prop) (meas : S → Nat) (s0 : S) (h0 : CanS m σ (L s0) (Hs s0) df) (hi : Inv s0)
    (round : ∀ s, Inv s → W P B N m c (AEx.go (fun σ' => ∃ s', meas s' < meas s ∧ Inv s' ∧ CanS m σ' (L s') (Hs s') df) Q) (St.ofS (L s) (Hs s) df)) : W P B N m (.loop c) Q σ := by
  refine w_loop (fun n σ => ∃ s, meas s = n ∧ Inv s ∧ CanS m σ (L s) (Hs s) df) (meas s0) ⟨s0, rfl, hi, h0⟩ ?_
  rintro n σ' ⟨s, rfl, his, hc⟩
  refine W.ghostM hc.ok ((round s his).mono ?_)
  intro e σ2 hq
  cases e with
  | normal => obtain ⟨s', h1, h2, h3⟩ := hq; exact ⟨meas s', h1, s', rfl, h2, h3⟩
  | _ => exact hq
end
def lvAt : List (List Nat) → Nat → List Nat
  | [], _ => []
  | l :: _, 0 => l
  | _ :: r, n + 1 => lvAt r n
theorem lvAt_zero (l : List Nat) (r : List (List Nat)) : lvAt (l :: r) 0 = l := rfl
theorem lvAt_succ (l : List Nat) (r : List (List Nat)) (n : Nat) : lvAt (l :: r) (n + 1) = lvAt r n := rfl
section
variable {P : Program} {B : Fb → Prop} {N m : Nat} {Q : AEx → St → Prop} {σ : St}
/-- Slots that nobody reads any more are let go. -/
theorem w_live {tm : Nat → AV} {hp : Heap} {n : Nat} {df : List Nat} {d : Nat} {x : AV} (lv : Nat → List Nat) {id : Nat} {ops : Array Oper} {dr : Bool} {ks : List Nat} {l : List (Nat × AV)} (hk : lv id = ks) (hl : ks.map (fun k => (k, upd tm d x k)) = l)
    (h : W P B N m (.region id ops dr) Q ⟨sp l, hp, n, df⟩) : W P B N m (.region id ops dr) Q ⟨upd tm d x, hp, n, df⟩ := by
  refine W.ghost (σ1 := ⟨sp l, hp, n, df⟩) (fun K a hs => ⟨K, rfl, ⟨hs.next, hs.rel, ⟨hs.tr.1, fun t => ?_⟩, hs.dr⟩, .refl K _⟩) h
  have key : ∀ ks : List Nat, VR K (sp (ks.map (fun k => (k, upd tm d x k))) t) (a.tmps.getD t undef) := by
    intro ks
    induction ks with
    | nil => exact .any _
    | cons k ks ih =>
      rw [List.map_cons, sp_cons]
      cases hb : t == k with
      | true => rw [← show t = k by simpa using hb]; exact hs.tr.2 t
      | false => exact ih
  subst hk hl
  exact key _
end
/-! kcanS -/
theorem kcanS {σ : St} {l : List (Nat × AV)} {hs : List (Option Blk)} {df : List Nat} (r : List Nat) (h2 : r.length = hs.length := by rfl) (h3 : r.Nodup := by decide) (h5 : fitsS r σ.tm l := by simp only [fitsS, upd_b, Nat.reduceBEq, cond_true, cond_false, args0_zero, args0_succ, args0_nil, sp_cons, sp_nil, beq_self_eq_true, bne_self_eq_false, decide_true, decide_false, Bool.not_true, Bool.not_false, Int.toNat_natCast, List.take_zero, List.foldl_nil, List.length_nil, List.flatMap_cons, List.flatMap_nil, List.cons_append, List.nil_append, tE]; repeat' first | exact trivial | apply And.intro | exact SubR.any _ | exact SubR.ptr rfl | exact SubR.slice rfl (.inl rfl) | exact SubR.slice rfl (.inr rfl) | exact SubR.pur (by assumption) | exact SubR.pur (by simp only [pur_bool, pur_int, pur_str, pur_empty, pur_nilptr, pur_nilFunc, pur_nilIface, pur_any, pur_agg, pur_tuple, pur_vptr, pur_view, pur_iface, pur_func, tup, List.mem_cons, forall_eq_or_imp, List.not_mem_nil, false_implies, implies_true, and_self, forall_const, forall_eq, tE] <;> fail)) (h6 : fitsH r σ.h 0 hs := by first | exact trivial | (simp only [fitsH, Nat.reduceAdd, hl_zero, hl_succ, hl_nil, upd_b, Nat.reduceBEq, cond_true, cond_false, args0_zero, args0_succ, args0_nil, sp_cons, sp_nil, beq_self_eq_true, bne_self_eq_false, decide_true, decide_false, Bool.not_true, Bool.not_false, Int.toNat_natCast, List.take_zero, List.foldl_nil, List.length_nil, List.flatMap_cons, List.flatMap_nil, List.cons_append, List.nil_append, tE]; repeat' first | exact trivial | apply And.intro | exact ⟨_, _, rfl, rfl, .deferred⟩ | refine ⟨_, _, rfl, rfl, .cells ?_⟩ | exact SubRs.nil | refine SubRs.cons ?_ ?_ | exact SubR.any _ | exact SubR.ptr rfl | exact SubR.slice rfl (.inl rfl) | exact SubR.slice rfl (.inr rfl) | exact SubR.pur (by assumption) | exact SubR.pur (by simp only [pur_bool, pur_int, pur_str, pur_empty, pur_nilptr, pur_nilFunc, pur_nilIface, pur_any, pur_agg, pur_tuple, pur_vptr, pur_view, pur_iface, pur_func, tup, List.mem_cons, forall_eq_or_imp, List.not_mem_nil, false_implies, implies_true, and_self, forall_const, forall_eq, tE] <;> fail))) (h7 : df.map (fun i => r[i]?) = σ.df.map some := by rfl) : CanS 0 σ l hs df := ⟨r, h2, h3, Nat.zero_le _, (fun i hi => absurd hi (Nat.not_lt_zero i)), h5, h6, h7⟩
end Go.Lg
