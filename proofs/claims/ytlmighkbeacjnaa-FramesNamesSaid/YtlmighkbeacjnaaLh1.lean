/- Maps of own memory, whose keys are whole numbers. -/
import Derived.Test.YtlmighkbeacjnaaLgZ
set_option linter.unusedSimpArgs false
set_option linter.unusedSectionVars false
namespace Go.Lg
open Go
set_option linter.unusedVariables false
/-- A type's zero as one value. -/
def zeroA (i : TI) : Option AV := if isAggD i.desc then some (.agg i.zero) else match i.zero with
  | [x] => some x
  | _ => none
theorem r_zeroA {P : Program} {T : TT} (hT : TOK P T) {t : TypeId} {i : TI} (ht : T t = some i) {x : AV} (hx : zeroA i = some x) (w : World) : ∃ z, (zeroValue t).run P w = .ok z w ∧ ∀ K, VR K x z := by
  obtain ⟨z, h1, h2, h3, h4⟩ := r_zero hT ht w
  refine ⟨z, h1, fun K => ?_⟩
  unfold zeroA at hx
  by_cases ha : isAggD i.desc = true
  · rw [if_pos ha] at hx
    cases hx
    rw [h3 ha]
    exact VR.agg_.2 (h4 K)
  · rw [if_neg ha] at hx
    have ha' : isAggD i.desc = false := by simpa using ha
    obtain ⟨ti, z', g1, g2, g3⟩ := hT.nagg t i ht ha'
    have hz : z' = z := by
      have : (zeroValue t).run P w = .ok z' w := by simp [zeroValue, typeInfo, program, Sem.run, g1, g2]
      rw [h1] at this; cases this; rfl
    subst hz
    split at hx
    · rename_i y hy
      cases hx
      have := h4 K
      rw [hy, g3] at this
      exact this.head
    · cases hx
def findM (k : Int) (kk : IntKind) : List (AV × AV) → Nat → Option (Option (Nat × AV))
  | [], _ => some none
  | (.int k' b, v) :: es, i => if kk = k' then (if k = b then some (some (i, v)) else findM k kk es (i + 1)) else none
  | _ :: _, _ => none
/-- Entries as they read. -/
def MR (K : Ctx) (es : List (AV × AV)) (l : List MapEntry) : Prop := l.length = es.length ∧ ∀ (j : Nat) p, es[j]? = some p → ∃ m, l[j]? = some m ∧ VR K p.1 m.key ∧ VR K p.2 m.val
theorem MR.tail {K : Ctx} {p : AV × AV} {es : List (AV × AV)} {m : MapEntry} {l : List MapEntry} (h : MR K (p :: es) (m :: l)) : MR K es l :=
  ⟨by simpa using h.1, fun j p hp => by simpa using h.2 (j + 1) p (by simpa using hp)⟩
theorem MR.head {K : Ctx} {p : AV × AV} {es : List (AV × AV)} {m : MapEntry} {l : List MapEntry} (h : MR K (p :: es) (m :: l)) : VR K p.1 m.key ∧ VR K p.2 m.val := by
  obtain ⟨m', h1, h2⟩ := h.2 0 p rfl
  simp at h1; subst h1; exact h2
theorem find_sound {K : Ctx} {k : Int} {kk kd : IntKind} : ∀ (es : List (AV × AV)) (l : List MapEntry) (i : Nat) (r : Option (Nat × AV)), MR K es l → findM k kk es i = some r →
    match r with
    | none => Instr.findNow (.int kd) (.int kk k) l i = some none
    | some (j, v) => ∃ u m, Instr.findNow (.int kd) (.int kk k) l i = some (some (j, u)) ∧ VR K v u ∧ i ≤ j ∧ j < i + es.length ∧ l[j - i]? = some m ∧ m.key = .int kk k ∧ m.val = u
  | [], l, i, r, h, e => by
    have : l = [] := List.eq_nil_of_length_eq_zero h.1
    subst this
    cases e; rfl
  | (p, v) :: es, [], i, r, h, e => by have := h.1; simp at this
  | (p, v) :: es, m :: l, i, r, h, e => by
    obtain ⟨h1, h2⟩ := h.head
    simp only at h1 h2
    cases p with
    | int k' b =>
      have hk := h1.int_inv
      simp only [findM] at e
      split at e
      · rename_i hkk
        subst hkk
        split at e
        · rename_i hb
          cases e
          subst hb
          refine ⟨m.val, m, ?_, h2, Nat.le_refl _, by simp, by simp, hk, rfl⟩
          simp [Instr.findNow, Instr.sameNow, hk]
        · rename_i hb
          have ih := find_sound (kd := kd) es l (i + 1) r h.tail e
          have hf : Instr.findNow (.int kd) (.int kk k) (m :: l) i = Instr.findNow (.int kd) (.int kk k) l (i + 1) := by
            have : (k == b) = false := by simpa using hb
            simp [Instr.findNow, Instr.sameNow, hk, this]
          cases r with
          | none => simp only at ih ⊢; rw [hf]; exact ih
          | some q =>
            obtain ⟨j, w⟩ := q
            obtain ⟨u, m', g1, g2, g3, g4, g5, g6, g7⟩ := ih
            refine ⟨u, m', by rw [hf]; exact g1, g2, by omega, by simp only [List.length_cons]; omega, ?_, g6, g7⟩
            rw [show j - i = (j - (i + 1)) + 1 by omega, List.getElem?_cons_succ]
            exact g5
      · cases e
    | _ => simp [findM] at e
theorem checkKey_int {P : Program} {T : TT} (hT : TOK P T) {t : TypeId} {i : TI} {kd : IntKind} (ht : T t = some i) (hd : i.desc = .int kd) (b : Bool) (k : IntKind) (n : Int) (f : Nat) (w : World) : (Instr.checkKey b (f + 1) t (.int k n)).run P w = .ok () w := by
  have hu := r_und hT ht w
  rw [hd] at hu
  unfold Instr.checkKey
  rw [run_bindv hu]
  rfl
theorem findKey_run {P : Program} {T : TT} (hT : TOK P T) {t : TypeId} {i : TI} {kd : IntKind} (ht : T t = some i) (hd : i.desc = .int kd) {k : Value} {l : List MapEntry} {r : Option (Nat × Value)} (h : Instr.findNow (.int kd) k l 0 = some r) (w : World) : (Instr.findKey t k l).run P w = .ok r w := by
  have hu := r_und hT ht w
  rw [hd] at hu
  unfold Instr.findKey
  rw [run_bindv hu, h]
  rfl
def valM (z : AV) (r : Option (Nat × AV)) : AV := match r with
  | some (_, v) => v
  | none => z
def gotM (z : AV) (ok : Bool) (r : Option (Nat × AV)) : AV := if ok then .tuple [valM z r, .bool r.isSome] else valM z r
section
variable {P : Program} {T : TT} (hT : TOK P T) {N : Nat} {o : Oper} {σ : St}
theorem opv_makeMap {t : TypeId} (hop : o.op = .makeMap t none) : OpV P N o σ (.map σ.n) (upd σ.h σ.n (some (.map []))) (σ.n + 1) := by
  intro K a hs
  have hb : BR (K.newOwn (.map #[] 0) 0) K.next (.map []) := by
    refine ⟨#[], 0, ?_, rfl, fun j p hp => by cases hp⟩
    show (K.w.heap.push _)[upd K.base K.next _ K.next]? = _
    rw [upd_same]; simp
  obtain ⟨h1, h2⟩ := newOwn_ok hs.rel hb
  have e1 : (K.newOwn (.map #[] 0) 0).base K.next = K.w.heap.size := upd_same _ _ _
  refine ⟨.map (some K.w.heap.size), K.newOwn (.map #[] 0) 0, .inl ?_, by rw [← hs.next]; rfl, by rw [← hs.next]; exact h1, by rw [← hs.next]; exact h2, ?_⟩
  · unfold execOp; rw [hop]; rfl
  · rw [← hs.next]
    have := VR.map (K := K.newOwn (.map #[] 0) 0) (id := K.next) (Nat.lt_succ_self _)
    rw [e1] at this; exact this
include hT
theorem opv_lookup {t kt et : TypeId} {x ix : Operand} {ok : Bool} {id : Nat} {es : List (AV × AV)} {kk kd : IntKind} {k : Int} {ti ki ei : TI} {z : AV} {r : Option (Nat × AV)} (hop : o.op = .lookup t x ix ok) (hx : evo σ.tm x = some (.map id)) (hi : evo σ.tm ix = some (.int kk k)) (hH : σ.h id = some (.map es))
    (ht : T t = some ti) (hd : ti.desc = .map kt et) (hk : T kt = some ki) (hkd : ki.desc = .int kd) (he : T et = some ei) (hz : zeroA ei = some z) (hf : findM k kk es 0 = some r) :
    OpV P N o σ (gotM z ok r) σ.h σ.n := by
  refine opv_of fun K a hs => ?_
  have hvx := evo_sound hs.tr hx
  have hvi := (evo_sound hs.tr hi).int_inv
  obtain ⟨arr, clock, hblk, hsz, hent⟩ := hs.rel.br id _ hH
  have hmr : MR K es arr.toList := ⟨by simpa using hsz, fun j p hp => by obtain ⟨m, h1, h2⟩ := hent j p hp; exact ⟨m, by rw [Array.getElem?_toList]; exact h1, h2⟩⟩
  have hu := r_und hT ht K.w
  rw [hd] at hu
  obtain ⟨zv, hz1, hz2⟩ := r_zeroA hT he hz K.w
  have hfs := find_sound (kd := kd) es arr.toList 0 r hmr hf
  generalize hh : a.eval x = v at hvx
  cases hvx
  have hget : (getObj (K.base id)).run P K.w = .ok (.map arr clock) K.w := by simp [getObj, Sem.run, hblk]
  have fin : ∀ (q : Option (Nat × Value)) (u : Value), Instr.findNow (.int kd) (.int kk k) arr.toList 0 = some q → VR K (valM z r) u → r.isSome = q.isSome → (q = none → u = zv) → (∀ p, q = some p → p.2 = u) →
      ∃ v, (execOp a.eval o).run P K.w = .ok (.value v) K.w ∧ VR K (gotM z ok r) v := by
    intro q u hq hu2 hsome hnone hsm
    refine ⟨if ok then .tuple #[u, .bool q.isSome] else u, ?_, ?_⟩
    · unfold execOp; rw [hop]
      refine run_v ?_
      unfold Instr.lookup
      rw [run_bindv hu]
      simp only [hh, hvi]
      rw [run_bindv hget]
      simp only
      rw [run_bindv (run_purev arr K.w)]
      rw [run_bindv (checkKey_int hT hk hkd _ _ _ _ _), run_bindv (findKey_run hT hk hkd hq _)]
      cases q with
      | none =>
        simp only
        rw [hnone rfl]
        rw [run_bindv hz1, run_bindv (run_purev (zv, false) K.w)]
        cases ok <;> rfl
      | some p =>
        obtain ⟨j, w⟩ := p
        have := hsm _ rfl
        simp only at this
        subst this
        rw [run_bindv (run_purev (w, true) K.w)]
        cases ok <;> rfl
    · cases ok with
      | false => exact hu2
      | true => exact VR.tuple_.2 (.cons hu2 (.cons (by rw [hsome]; exact .bool _) (.nil K)))
  cases r with
  | none => exact fin none zv hfs (hz2 K) rfl (fun _ => rfl) (fun p hp => by cases hp)
  | some p =>
    obtain ⟨j, v⟩ := p
    obtain ⟨u, m, g1, g2, _⟩ := hfs
    exact fin (some (j, u)) u g1 g2 rfl (fun h => by cases h) (fun p hp => by cases hp; rfl)
/-- The entries behind an update. -/
def putM (k : AV) (y : AV) (es : List (AV × AV)) : Option (Nat × AV) → List (AV × AV)
  | some (j, _) => es.set j (k, y)
  | none => es ++ [(k, y)]
theorem opv_mapUpdate {t kt et : TypeId} {x ix yo : Operand} {id : Nat} {es : List (AV × AV)} {kk kd : IntKind} {k : Int} {ti ki : TI} {y : AV} {r : Option (Nat × AV)} (hop : o.op = .mapUpdate t x ix yo ∨ o.op = .insert t x ix yo) (hx : evo σ.tm x = some (.map id)) (hi : evo σ.tm ix = some (.int kk k)) (hy : evo σ.tm yo = some y) (hH : σ.h id = some (.map es))
    (ht : T t = some ti) (hd : ti.desc = .map kt et) (hk : T kt = some ki) (hkd : ki.desc = .int kd) (hf : findM k kk es 0 = some r) :
    OpV P N o σ (.tuple []) (upd σ.h id (some (.map (putM (.int kk k) y es r)))) σ.n := by
  intro K a hs
  have hvx := evo_sound hs.tr hx
  have hvi := (evo_sound hs.tr hi).int_inv
  have hvy := evo_sound hs.tr hy
  have hid0 : σ.h id ≠ none := by rw [hH]; simp
  obtain ⟨arr, clock, hblk, hsz, hent⟩ := hs.rel.br id _ hH
  have hmr : MR K es arr.toList := ⟨by simpa using hsz, fun j p hp => by obtain ⟨m, h1, h2⟩ := hent j p hp; exact ⟨m, by rw [Array.getElem?_toList]; exact h1, h2⟩⟩
  have hu := r_und hT ht K.w
  rw [hd] at hu
  have hfs := find_sound (kd := kd) es arr.toList 0 r hmr hf
  generalize hh : a.eval x = v at hvx
  cases hvx
  have hget : (getObj (K.base id)).run P K.w = .ok (.map arr clock) K.w := by simp [getObj, Sem.run, hblk]
  have hset : ∀ o' : Obj, (setObj (K.base id) o').run P K.w = .ok () (K.w.putObj (K.base id) o') := fun o' => by simp only [setObj, Sem.run, hblk]; rfl
  have fin : ∀ (arr' : Array MapEntry) (clock' : Nat), (Instr.mapUpdate t (a.eval x) (a.eval ix) (a.eval yo)).run P K.w = .ok () (K.w.putObj (K.base id) (.map arr' clock')) → arr'.size = (putM (.int kk k) y es r).length →
      (∀ (j : Nat) p, (putM (.int kk k) y es r)[j]? = some p → ∃ m, arr'[j]? = some m ∧ VR K p.1 m.key ∧ VR K p.2 m.val) →
      ∃ v K', ((execOp a.eval o).run P K.w = .ok (.value v) K'.w ∨ ((execOp a.eval o).run P K.w = .ok .skip K'.w ∧ v = undef)) ∧ K'.next = σ.n ∧ Rel K' (upd σ.h id (some (.map (putM (.int kk k) y es r)))) ∧ Step K σ.h K' (upd σ.h id (some (.map (putM (.int kk k) y es r)))) ∧ VR K' (.tuple []) v := by
    intro arr' clock' hrun hsz' hent'
    have hw := wrote_put K.w (K.base id) (.map arr' clock')
    have hE := wrote_ext hs.rel hid0 hw
    obtain ⟨k1, k2⟩ := wrote_ok (b := .map (putM (.int kk k) y es r)) hs.rel hid0 hw ⟨arr', clock', World.putObj_heap_same (Array.getElem?_eq_some_iff.1 hblk).1, hsz', fun j p hp => by
      obtain ⟨m, h1, h2, h3⟩ := hent' j p hp
      exact ⟨m, h1, h2.mono hE, h3.mono hE⟩⟩
    refine ⟨undef, K.at_ (K.w.putObj (K.base id) (.map arr' clock')), .inr ⟨?_, rfl⟩, hs.next, k1, k2, VR.undef_ _⟩
    rcases hop with hop | hop
    · unfold execOp; rw [hop]; exact (run_bindv hrun).trans rfl
    · unfold execOp; rw [hop]; exact (run_bindv hrun).trans rfl
  cases r with
  | none =>
    refine fin (arr.push { key := .int kk k, val := a.eval yo, born := clock }) (clock + 1) ?_ (by simp [putM, hsz]) ?_
    · unfold Instr.mapUpdate
      rw [run_bindv hu, hh]
      simp only
      rw [run_bindv hget]
      simp only [hvi]
      rw [run_bindv (checkKey_int hT hk hkd _ _ _ _ _), run_bindv (findKey_run hT hk hkd hfs _)]
      exact hset _
    · intro j p hp
      simp only [putM] at hp
      rw [List.getElem?_append] at hp
      split at hp
      · obtain ⟨m, h1, h2⟩ := hent j p hp
        refine ⟨m, ?_, h2⟩
        rw [Array.getElem?_push]
        rw [if_neg (by omega)]; exact h1
      · rename_i hj
        have hj2 : j = es.length := by
          have := (List.getElem?_eq_some_iff.1 hp).1
          simp at this; omega
        subst hj2
        simp at hp
        subst hp
        exact ⟨_, by rw [Array.getElem?_push, if_pos hsz.symm], .int _ _, hvy⟩
  | some q =>
    obtain ⟨j0, v⟩ := q
    obtain ⟨u, m0, g1, g2, g3, g4, g5, g6, g7⟩ := hfs
    simp only [Nat.sub_zero, Nat.zero_add] at g4 g5
    rw [Array.getElem?_toList] at g5
    refine fin (arr.modify j0 fun e => { e with key := .int kk k, val := a.eval yo }) clock ?_ (by simp [putM, hsz]) ?_
    · unfold Instr.mapUpdate
      rw [run_bindv hu, hh]
      simp only
      rw [run_bindv hget]
      simp only [hvi]
      rw [run_bindv (checkKey_int hT hk hkd _ _ _ _ _), run_bindv (findKey_run hT hk hkd g1 _)]
      simp only
      have hks : (Instr.keyThatStays (((arr[j0]?).map (·.key)).getD (.int kk k)) (.int kk k)).run P K.w = .ok (.int kk k) K.w := by
        rw [g5]
        simp only [Option.map_some, Option.getD_some, g6]
        unfold Instr.keyThatStays
        rw [if_pos (by simp [Instr.sameBits])]
        rfl
      rw [run_bindv hks]
      exact hset _
    · intro j p hp
      simp only [putM] at hp
      rw [List.getElem?_set] at hp
      by_cases hj : j0 = j
      · subst hj
        rw [if_pos rfl, if_pos g4] at hp
        cases hp
        refine ⟨{ m0 with key := .int kk k, val := a.eval yo }, ?_, .int _ _, hvy⟩
        rw [Array.getElem?_modify]; simp [g5]
      · rw [if_neg hj] at hp
        obtain ⟨m, h1, h2⟩ := hent j p hp
        refine ⟨m, ?_, h2⟩
        rw [Array.getElem?_modify, if_neg hj]; exact h1
end
end Go.Lg
