/- Maps of own memory whose keys are structs of whole numbers: by the kit's law of such keys. -/
import Derived.Test.YtlmighkbeacjnaaGreatDoorLm6
import Derived.DeepKeys3
import Derived.Laws.IdiomStrings

set_option linter.unusedVariables false
set_option linter.unusedSimpArgs false
set_option linter.unusedSectionVars false
namespace Go.Lg
open Go
abbrev KN := Bool × List (IntKind × Int)
def nInts : List AV → Option (List (IntKind × Int))
  | [] => some []
  | .int k n :: r => match nInts r with
    | some l => some ((k, n) :: l)
    | none => none
  | _ :: _ => none
/-- A key in its normal form. -/
def nK : AV → Option KN
  | .int k n => some (false, [(k, n)])
  | .agg cs => match nInts cs with
    | some l => some (true, l)
    | none => none
  | _ => none
def toV (q : KN) : Value := match q with
  | (true, l) => .agg (l.map fun p => Value.int p.1 p.2).toArray
  | (false, (k, n) :: _) => .int k n
  | (false, []) => .tuple #[]
theorem nInts_sound {K : Ctx} : ∀ {cs : List AV} {l : List (IntKind × Int)} {vs : List Value}, nInts cs = some l → VRs K cs vs → vs = l.map fun p => Value.int p.1 p.2
  | [], l, vs, h, hv => by
    cases h
    exact List.eq_nil_of_length_eq_zero hv.1
  | c :: cs, l, [], h, hv => by have := hv.1; simp at this
  | c :: cs, l, v :: vs, h, hv => by
    cases c with
    | int k n =>
      replace h : (match nInts cs with
        | some l => some ((k, n) :: l)
        | none => none) = some l := h
      split at h
      · rename_i l' hl
        cases h
        rw [hv.head.int_inv, nInts_sound hl hv.tail]
        rfl
      · cases h
    | _ => cases h
theorem nK_sound {K : Ctx} {x : AV} {q : KN} {v : Value} (h : nK x = some q) (hv : VR K x v) : v = toV q := by
  cases x with
  | int k n => cases h; exact hv.int_inv
  | agg cs =>
    replace h : (match nInts cs with
      | some l => some (true, l)
      | none => none) = some q := h
    split at h
    · rename_i l hl
      cases h
      obtain ⟨vs, rfl, hvs⟩ := hv.agg_inv
      have := nInts_sound hl hvs
      show Value.agg vs = .agg (l.map fun p => Value.int p.1 p.2).toArray
      rw [← this]
    · cases h
  | _ => cases h
theorem map_int_inj : ∀ {l l' : List (IntKind × Int)}, (l.map fun p => Value.int p.1 p.2) = (l'.map fun p => Value.int p.1 p.2) → l = l'
  | [], [], _ => rfl
  | [], _ :: _, h => by cases h
  | _ :: _, [], h => by cases h
  | (k, n) :: l, (k', n') :: l', h => by
    simp only [List.map_cons, List.cons.injEq, Value.int.injEq] at h
    obtain ⟨⟨rfl, rfl⟩, h⟩ := h
    rw [map_int_inj h]
/-- Which entries have this key. -/
def matchU (q : KN) : List (AV × AV) → Nat → Option (List (Nat × AV))
  | [], _ => some []
  | p :: es, i => match nK p.1 with
    | some q' => match matchU q es (i + 1) with
      | some l => some (if q' = q then (i, p.2) :: l else l)
      | none => none
    | none => none
theorem matchU_spec {q : KN} : ∀ {es : List (AV × AV)} {i : Nat} {L : List (Nat × AV)}, matchU q es i = some L →
    (∀ (j : Nat) p, es[j]? = some p → ∃ q', nK p.1 = some q' ∧ (q' = q ↔ (i + j, p.2) ∈ L)) ∧ (∀ j v, (j, v) ∈ L → i ≤ j ∧ ∃ p, es[j - i]? = some p ∧ nK p.1 = some q ∧ p.2 = v)
  | [], i, L, h => by cases h; exact ⟨fun j p h => by simp at h, fun j v h => by cases h⟩
  | p :: es, i, L, h => by
    unfold matchU at h
    split at h
    · rename_i q' hq
      split at h
      · rename_i l hl
        obtain ⟨h1, h2⟩ := matchU_spec hl
        have hlow : ∀ j v, (j, v) ∈ l → i + 1 ≤ j := fun j v hm => (h2 j v hm).1
        cases h
        refine ⟨fun j p' hp => ?_, fun j v hm => ?_⟩
        · cases j with
          | zero =>
            simp only [List.getElem?_cons_zero, Option.some.injEq] at hp
            subst hp
            refine ⟨q', hq, ?_⟩
            by_cases e : q' = q
            · simp [e]
            · simp only [e, if_false, false_iff, Nat.add_zero]
              intro hm
              have := hlow _ _ hm
              omega
          | succ j =>
            simp only [List.getElem?_cons_succ] at hp
            obtain ⟨q2, g1, g2⟩ := h1 j p' hp
            refine ⟨q2, g1, g2.trans ?_⟩
            rw [show i + 1 + j = i + (j + 1) by omega]
            by_cases e : q' = q
            · simp only [e, if_true, List.mem_cons, Prod.mk.injEq]
              constructor
              · exact fun h => .inr h
              · rintro (⟨h3, _⟩ | h3)
                · omega
                · exact h3
            · simp [e]
        · have tail : (j, v) ∈ l → i ≤ j ∧ ∃ p', (p :: es)[j - i]? = some p' ∧ nK p'.1 = some q ∧ p'.2 = v := fun hm => by
            obtain ⟨g1, p', g2, g3⟩ := h2 j v hm
            refine ⟨by omega, p', ?_, g3⟩
            rw [show j - i = (j - (i + 1)) + 1 by omega, List.getElem?_cons_succ]
            exact g2
          by_cases e : q' = q
          · rw [if_pos e] at hm
            rcases List.mem_cons.1 hm with hm | hm
            · cases hm
              exact ⟨Nat.le_refl _, p, by simp, e ▸ hq, rfl⟩
            · exact tail hm
          · rw [if_neg e] at hm
            exact tail hm
      · cases h
    · cases h
/-- At most one entry has this key. -/
def findU (q : KN) (es : List (AV × AV)) : Option (Option (Nat × AV)) := match matchU q es 0 with
  | some [] => some none
  | some [p] => some (some p)
  | _ => none
theorem toV_inj {q q' : KN} {x x' : AV} (h : nK x = some q) (h' : nK x' = some q') (hb : q.1 = true ∨ q'.1 = true) (e : toV q = toV q') : q = q' := by
  obtain ⟨b, l⟩ := q
  obtain ⟨b', l'⟩ := q'
  cases b <;> cases b'
  · rcases hb with h | h <;> cases h
  · cases l with
    | nil => simp [toV] at e
    | cons a l => simp [toV] at e
  · cases l' with
    | nil => simp [toV] at e
    | cons a l => simp [toV] at e
  · simp only [toV, Value.agg.injEq] at e
    have : (l.map fun p => Value.int p.1 p.2) = (l'.map fun p => Value.int p.1 p.2) := by simpa using congrArg Array.toList e
    rw [map_int_inj this]
theorem findU_sound {P : Program} {kt : TypeId} (law : WideMaps.KeyLaw P kt) {K : Ctx} {q : KN} {l : Lit} {x : AV} (hx : nK x = some q) (hb : q.1 = true) (hl : keyOf P kt (toV q) = some l) {es : List (AV × AV)} {ms : List MapEntry} (hm : MR K es ms)
    (hes : ∀ p, p ∈ es → ∀ q', nK p.1 = some q' → ∃ l', keyOf P kt (toV q') = some l') {r : Option (Nat × AV)} (hf : findU q es = some r) (w : World) :
    match r with
    | none => (Instr.findKey kt (toV q) ms).run P w = .ok none w
    | some (j, v) => ∃ m, (Instr.findKey kt (toV q) ms).run P w = .ok (some (j, m.val)) w ∧ ms[j]? = some m ∧ m.key = toV q ∧ VR K v m.val ∧ j < es.length := by
  unfold findU at hf
  have key : ∀ {L}, matchU q es 0 = some L → ∀ (j : Nat) m, ms[j]? = some m → ∃ p, es[j]? = some p ∧ VR K p.2 m.val ∧ (∃ l', keyOf P kt m.key = some l') ∧ (m.key = toV q ↔ (j, p.2) ∈ L) := fun {L} hL j m hj => by
    have hlt : j < es.length := by rw [← hm.1]; exact (List.getElem?_eq_some_iff.1 hj).1
    have hp : es[j]? = some es[j] := List.getElem?_eq_getElem hlt
    obtain ⟨m', h1, h2, h3⟩ := hm.2 j _ hp
    rw [hj] at h1
    cases h1
    obtain ⟨q', g1, g2⟩ := (matchU_spec hL).1 j _ hp
    have e := nK_sound g1 h2
    rw [Nat.zero_add] at g2
    refine ⟨_, hp, h3, ?_, ?_⟩
    · rw [e]; exact hes _ (List.getElem_mem hlt) q' g1
    · rw [← g2, e]
      exact ⟨fun h => toV_inj g1 hx (.inr hb) h, fun h => by rw [h]⟩
  have all : ∀ {L}, matchU q es 0 = some L → ∀ e, e ∈ ms → ∃ l', keyOf P kt e.key = some l' := fun hL e he => by
    obtain ⟨j, hj⟩ := List.mem_iff_getElem?.1 he
    obtain ⟨_, _, _, h, _⟩ := key hL j e hj
    exact h
  split at hf
  · rename_i hL
    cases hf
    rcases law.find w hl ms (all hL) with ⟨h1, _⟩ | ⟨j, e, _, h2, h3⟩
    · exact h1
    · obtain ⟨_, _, _, _, h4⟩ := key hL j e h2
      cases h4.1 h3
  · rename_i p hL
    cases hf
    obtain ⟨j0, v⟩ := p
    obtain ⟨_, p0, g1, g2, g3⟩ := (matchU_spec hL).2 j0 v (by simp)
    rw [Nat.sub_zero] at g1
    have hlt : j0 < es.length := (List.getElem?_eq_some_iff.1 g1).1
    obtain ⟨m0, k1, k2, k3⟩ := hm.2 j0 _ g1
    have e0 := nK_sound g2 k2
    rcases law.find w hl ms (all hL) with ⟨_, h2⟩ | ⟨j, e, h1, h2, h3⟩
    · exact absurd e0 (h2 m0 (List.mem_of_getElem? k1))
    · obtain ⟨p', f1, f2, _, f4⟩ := key hL j e h2
      have := f4.1 h3
      simp only [List.mem_singleton, Prod.mk.injEq] at this
      obtain ⟨rfl, _⟩ := this
      rw [h2] at k1
      cases k1
      exact ⟨_, h1, h2, h3, g3 ▸ k3, hlt⟩
  · cases hf
section
variable {P : Program} {T : TT} (hT : TOK P T) {N : Nat} {o : Oper} {σ : St}
include hT
theorem opv_lookupK {t kt et : TypeId} {x ix : Operand} {ok : Bool} {id : Nat} {es : List (AV × AV)} {key : AV} {q : KN} {l : Lit} {ti ei : TI} {z : AV} {r : Option (Nat × AV)} (law : WideMaps.KeyLaw P kt) (hop : o.op = .lookup t x ix ok) (hx : evo σ.tm x = some (.map id)) (hi : evo σ.tm ix = some key) (hH : σ.h id = some (.map es))
    (ht : T t = some ti) (hd : ti.desc = .map kt et) (he : T et = some ei) (hz : zeroA ei = some z) (hq : nK key = some q) (hb : q.1 = true) (hl : keyOf P kt (toV q) = some l) (hes : ∀ p, p ∈ es → ∀ q', nK p.1 = some q' → ∃ l', keyOf P kt (toV q') = some l') (hf : findU q es = some r) :
    OpV P N o σ (gotM z ok r) σ.h σ.n := by
  refine opv_of fun K a hs => ?_
  have hvx := evo_sound hs.tr hx
  have hvi := nK_sound hq (evo_sound hs.tr hi)
  obtain ⟨arr, clock, hblk, hsz, hent⟩ := hs.rel.br id _ hH
  have hmr : MR K es arr.toList := ⟨by simpa using hsz, fun j p hp => by obtain ⟨m, h1, h2⟩ := hent j p hp; exact ⟨m, by rw [Array.getElem?_toList]; exact h1, h2⟩⟩
  have hu := r_und hT ht K.w
  rw [hd] at hu
  obtain ⟨zv, hz1, hz2⟩ := r_zeroA hT he hz K.w
  have hfs := findU_sound law hq hb hl hmr hes hf K.w
  generalize hh : a.eval x = v at hvx
  cases hvx
  have hget : (getObj (K.base id)).run P K.w = .ok (.map arr clock) K.w := by simp [getObj, Sem.run, hblk]
  have fin : ∀ (q' : Option (Nat × Value)) (u : Value), (Instr.findKey kt (toV q) arr.toList).run P K.w = .ok q' K.w → VR K (valM z r) u → r.isSome = q'.isSome → (q' = none → u = zv) → (∀ p, q' = some p → p.2 = u) →
      ∃ v, (execOp a.eval o).run P K.w = .ok (.value v) K.w ∧ VR K (gotM z ok r) v := by
    intro q' u hq' hu2 hsome hnone hsm
    refine ⟨if ok then .tuple #[u, .bool q'.isSome] else u, ?_, ?_⟩
    · unfold execOp; rw [hop]
      refine run_v ?_
      unfold Instr.lookup
      rw [run_bindv hu]
      simp only [hh, hvi]
      rw [run_bindv hget]
      simp only
      rw [run_bindv (run_purev arr K.w)]
      rw [run_bindv (law.check K.w _ hl), run_bindv hq']
      cases q' with
      | none =>
        simp only
        rw [hnone rfl]
        rw [run_bindv hz1, run_bindv (run_purev (zv, false) K.w)]
        cases ok <;> rfl
      | some p =>
        obtain ⟨j, w⟩ := p
        have := hsm _ rfl
        simp only at this
        subst this
        rw [run_bindv (run_purev (w, true) K.w)]
        cases ok <;> rfl
    · cases ok with
      | false => exact hu2
      | true => exact VR.tuple_.2 (.cons hu2 (.cons (by rw [hsome]; exact .bool _) (.nil K)))
  cases r with
  | none => exact fin none zv hfs (hz2 K) rfl (fun _ => rfl) (fun p hp => by cases hp)
  | some p =>
    obtain ⟨j, v⟩ := p
    obtain ⟨m, g1, _, _, g2, _⟩ := hfs
    exact fin (some (j, m.val)) m.val g1 g2 rfl (fun h => by cases h) (fun p hp => by cases hp; rfl)
theorem opv_mapUpdateK {t kt et : TypeId} {x ix yo : Operand} {id : Nat} {es : List (AV × AV)} {key : AV} {q : KN} {l : Lit} {ti : TI} {y : AV} {r : Option (Nat × AV)} (law : WideMaps.KeyLaw P kt) (hop : o.op = .mapUpdate t x ix yo ∨ o.op = .insert t x ix yo) (hx : evo σ.tm x = some (.map id)) (hi : evo σ.tm ix = some key) (hy : evo σ.tm yo = some y) (hH : σ.h id = some (.map es))
    (ht : T t = some ti) (hd : ti.desc = .map kt et) (hq : nK key = some q) (hb : q.1 = true) (hl : keyOf P kt (toV q) = some l) (hes : ∀ p, p ∈ es → ∀ q', nK p.1 = some q' → ∃ l', keyOf P kt (toV q') = some l') (hf : findU q es = some r) :
    OpV P N o σ (.tuple []) (upd σ.h id (some (.map (putM key y es r)))) σ.n := by
  intro K a hs
  have hvx := evo_sound hs.tr hx
  have hvk := evo_sound hs.tr hi
  have hvi := nK_sound hq hvk
  have hvy := evo_sound hs.tr hy
  have hid0 : σ.h id ≠ none := by rw [hH]; simp
  obtain ⟨arr, clock, hblk, hsz, hent⟩ := hs.rel.br id _ hH
  have hmr : MR K es arr.toList := ⟨by simpa using hsz, fun j p hp => by obtain ⟨m, h1, h2⟩ := hent j p hp; exact ⟨m, by rw [Array.getElem?_toList]; exact h1, h2⟩⟩
  have hu := r_und hT ht K.w
  rw [hd] at hu
  have hfs := findU_sound law hq hb hl hmr hes hf K.w
  rw [hvi] at hvk
  generalize hh : a.eval x = v at hvx
  cases hvx
  have hget : (getObj (K.base id)).run P K.w = .ok (.map arr clock) K.w := by simp [getObj, Sem.run, hblk]
  have hset : ∀ o' : Obj, (setObj (K.base id) o').run P K.w = .ok () (K.w.putObj (K.base id) o') := fun o' => by simp only [setObj, Sem.run, hblk]; rfl
  have fin : ∀ (arr' : Array MapEntry) (clock' : Nat), (Instr.mapUpdate t (a.eval x) (a.eval ix) (a.eval yo)).run P K.w = .ok () (K.w.putObj (K.base id) (.map arr' clock')) → arr'.size = (putM key y es r).length →
      (∀ (j : Nat) p, (putM key y es r)[j]? = some p → ∃ m, arr'[j]? = some m ∧ VR K p.1 m.key ∧ VR K p.2 m.val) →
      ∃ v K', ((execOp a.eval o).run P K.w = .ok (.value v) K'.w ∨ ((execOp a.eval o).run P K.w = .ok .skip K'.w ∧ v = undef)) ∧ K'.next = σ.n ∧ Rel K' (upd σ.h id (some (.map (putM key y es r)))) ∧ Step K σ.h K' (upd σ.h id (some (.map (putM key y es r)))) ∧ VR K' (.tuple []) v := by
    intro arr' clock' hrun hsz' hent'
    have hw := wrote_put K.w (K.base id) (.map arr' clock')
    have hE := wrote_ext hs.rel hid0 hw
    obtain ⟨k1, k2⟩ := wrote_ok (b := .map (putM key y es r)) hs.rel hid0 hw ⟨arr', clock', World.putObj_heap_same (Array.getElem?_eq_some_iff.1 hblk).1, hsz', fun j p hp => by
      obtain ⟨m, h1, h2, h3⟩ := hent' j p hp
      exact ⟨m, h1, h2.mono hE, h3.mono hE⟩⟩
    refine ⟨undef, K.at_ (K.w.putObj (K.base id) (.map arr' clock')), .inr ⟨?_, rfl⟩, hs.next, k1, k2, VR.undef_ _⟩
    rcases hop with hop | hop
    · unfold execOp; rw [hop]; exact (run_bindv hrun).trans rfl
    · unfold execOp; rw [hop]; exact (run_bindv hrun).trans rfl
  cases r with
  | none =>
    refine fin (arr.push { key := toV q, val := a.eval yo, born := clock }) (clock + 1) ?_ (by simp [putM, hsz]) ?_
    · unfold Instr.mapUpdate
      rw [run_bindv hu, hh]
      simp only
      rw [run_bindv hget]
      simp only [hvi]
      rw [run_bindv (law.check K.w _ hl), run_bindv hfs]
      exact hset _
    · intro j p hp
      simp only [putM] at hp
      rw [List.getElem?_append] at hp
      split at hp
      · obtain ⟨m, h1, h2⟩ := hent j p hp
        refine ⟨m, ?_, h2⟩
        rw [Array.getElem?_push]
        rw [if_neg (by omega)]; exact h1
      · rename_i hj
        have hj2 : j = es.length := by
          have := (List.getElem?_eq_some_iff.1 hp).1
          simp at this; omega
        subst hj2
        simp at hp
        subst hp
        exact ⟨_, by rw [Array.getElem?_push, if_pos hsz.symm], hvk, hvy⟩
  | some p0 =>
    obtain ⟨j0, v⟩ := p0
    obtain ⟨m0, g1, g5, g6, g2, g4⟩ := hfs
    rw [Array.getElem?_toList] at g5
    refine fin (arr.modify j0 fun e => { e with key := toV q, val := a.eval yo }) clock ?_ (by simp [putM, hsz]) ?_
    · unfold Instr.mapUpdate
      rw [run_bindv hu, hh]
      simp only
      rw [run_bindv hget]
      simp only [hvi]
      rw [run_bindv (law.check K.w _ hl), run_bindv g1]
      simp only
      have hks : (Instr.keyThatStays (((arr[j0]?).map (·.key)).getD (toV q)) (toV q)).run P K.w = .ok (toV q) K.w := by
        rw [g5]
        simp only [Option.map_some, Option.getD_some, g6]
        exact law.stays K.w hl
      rw [run_bindv hks]
      exact hset _
    · intro j p hp
      simp only [putM] at hp
      rw [List.getElem?_set] at hp
      by_cases hj : j0 = j
      · subst hj
        rw [if_pos rfl, if_pos g4] at hp
        cases hp
        refine ⟨{ m0 with key := toV q, val := a.eval yo }, ?_, hvk, hvy⟩
        rw [Array.getElem?_modify]; simp [g5]
      · rw [if_neg hj] at hp
        obtain ⟨m, h1, h2⟩ := hent j p hp
        refine ⟨m, ?_, h2⟩
        rw [Array.getElem?_modify, if_neg hj]; exact h1
end
/-! which keys are told -/
theorem mapM_some {α β : Type} {f : α → Option β} : ∀ {L : List α}, (∀ x, x ∈ L → ∃ y, f x = some y) → ∃ ys, L.mapM f = some ys
  | [], _ => ⟨[], rfl⟩
  | a :: L, h => by
    obtain ⟨y, hy⟩ := h a (List.mem_cons_self ..)
    obtain ⟨ys, hys⟩ := mapM_some (L := L) fun x hx => h x (List.mem_cons_of_mem _ hx)
    exact ⟨y :: ys, by rw [List.mapM_cons, hy, hys]; rfl⟩
/-- A key of this type, in the form that the kit's law speaks of. -/
def keyShape (T : TT) : Nat → TypeId → List (IntKind × Int) → Bool
  | 0, _, _ => false
  | d + 1, t, l => match T t with
    | some i => match i.desc with
      | .int q => match l with
        | [(q', n)] => decide (q' = q) && (Lit.int q n).wf
        | _ => false
      | .array m e => match T e with
        | some ei => Nat.beq l.length i.size && (List.range m).all fun j => keyShape T d e ((l.drop (j * ei.size)).take ei.size)
        | none => false
      | .struct fs => Nat.beq l.length i.size && (fs.all (·.name != "_") && fs.toList.all fun f => match T f.type with
        | some fi => keyShape T d f.type ((l.drop f.offset).take fi.size)
        | none => false)
      | _ => false
    | none => false
theorem cellsOf_of {P : Program} {T : TT} (hT : TOK P T) {t : TypeId} {i : TI} (h : T t = some i) : P.cellsOf t = i.size := by
  obtain ⟨ti, _, h1, h2, _⟩ := hT.info t i h
  simp [Program.cellsOf, h1, h2]
abbrev iv (l : List (IntKind × Int)) : List Value := l.map fun p => Value.int p.1 p.2
theorem iv_part (l : List (IntKind × Int)) (a b : Nat) : ((iv l).drop a).take b = iv ((l.drop a).take b) := by
  simp [iv, List.map_drop, List.map_take]
theorem keyShape_sound {P : Program} {T : TT} (hT : TOK P T) : ∀ (d : Nat) (t : TypeId) (l : List (IntKind × Int)), keyShape T d t l = true → ∀ D, d ≤ D → ∃ ls, P.keyLits D t (iv l) = some ls
  | 0, _, _, h, _, _ => by cases h
  | d + 1, t, l, h, 0, hD => absurd hD (Nat.not_succ_le_zero _)
  | d + 1, t, l, h, D + 1, hD => by
    have ih := keyShape_sound hT d
    have hD : d ≤ D := Nat.le_of_succ_le_succ hD
    unfold keyShape at h
    split at h
    · rename_i i hi
      have hu := hT.und t i hi
      have hc := cellsOf_of hT hi
      unfold Program.keyLits
      split at h
      · rename_i q hd
        rw [hd] at hu
        split at h
        · rename_i q' n
          obtain ⟨h1, h2⟩ := Bool.and_eq_true_iff.1 h
          obtain rfl := of_decide_eq_true h1
          exact ⟨[.int q' n], by rw [hu]; simp [iv, h2]⟩
        · cases h
      · rename_i m e hd
        rw [hd] at hu
        split at h
        · rename_i ei hei
          obtain ⟨h1, h2⟩ := Bool.and_eq_true_iff.1 h
          have hce := cellsOf_of hT hei
          obtain ⟨ys, hys⟩ := mapM_some (f := fun j => P.keyLits D e (((iv l).drop (j * P.cellsOf e)).take (P.cellsOf e))) (L := List.range m) fun j hj => by
            rw [hce, iv_part]
            exact ih e _ (List.all_eq_true.1 h2 j hj) D hD
          refine ⟨ys.flatten, ?_⟩
          rw [hu]
          simp only
          rw [if_pos (by rw [hc, ← Nat.eq_of_beq_eq_true h1]; simp [iv]), hys]
          rfl
        · cases h
      · rename_i fs hd
        rw [hd] at hu
        obtain ⟨h1, h2⟩ := Bool.and_eq_true_iff.1 h
        obtain ⟨h2, h3⟩ := Bool.and_eq_true_iff.1 h2
        obtain ⟨ys, hys⟩ := mapM_some (f := fun f : Field => P.keyLits D f.type (((iv l).drop f.offset).take (P.cellsOf f.type))) (L := fs.toList) fun f hf => by
          have h4 := List.all_eq_true.1 h3 f hf
          split at h4
          · rename_i fi hfi
            rw [cellsOf_of hT hfi, iv_part]
            exact ih f.type _ h4 D hD
          · cases h4
        refine ⟨ys.flatten, ?_⟩
        rw [hu]
        simp only
        rw [if_pos ⟨by rw [hc, ← Nat.eq_of_beq_eq_true h1]; simp [iv], h2⟩, hys]
        rfl
      · cases h
    · cases h
/-- A type of keys that the evaluator may take. -/
structure KeyOK (P : Program) (t : TypeId) : Prop where
  law : WideMaps.KeyLaw P t
  kt : P.keyType t = true
  sz : 4 ≤ P.types.size + 1
theorem keyOf_shape {P : Program} {T : TT} (hT : TOK P T) {t : TypeId} (hk : KeyOK P t) {i : TI} (hi : T t = some i) {fs : Array Field} (hd : i.desc = .struct fs) {l : List (IntKind × Int)} (h : keyShape T 4 t l = true) : ∃ x, keyOf P t (toV (true, l)) = some x := by
  obtain ⟨ls, hls⟩ := keyShape_sound hT 4 t l h _ hk.sz
  have hu := hT.und t i hi
  rw [hd] at hu
  have hlen : l.length = P.cellsOf t := by
    rw [cellsOf_of hT hi]
    unfold keyShape at h
    rw [hi] at h
    simp only [hd] at h
    exact Nat.eq_of_beq_eq_true (Bool.and_eq_true_iff.1 h).1
  have hcl : (toV (true, l)).cells.toList = iv l := by simp [toV, Value.cells, iv]
  have hfm : (toV (true, l)).formed P t = true := by simp [toV, Value.formed, hu, hlen]
  refine ⟨.string (keyBytes ls), ?_⟩
  unfold keyOf
  rw [hu]
  simp only [hk.kt, hfm, Bool.and_self, if_true, hcl, hls, Option.map_some]
/-- Where the evaluator's table of comparable types tells of keys. -/
def keyBase : Nat := 1000000
def EqOK (P : Program) (eq : TypeId → Bool) : Prop := ∀ t, eq t = true → (P.stoodInHeld t = false ∧ P.eqGuardType P.depth t = false) ∧ ∀ t', t = keyBase + t' → KeyOK P t'
end Go.Lg

/- Texts told as bytes. -/
set_option linter.unusedVariables false
set_option linter.unusedSimpArgs false
set_option linter.unusedSectionVars false
namespace Go.Lg
open Go
def bytesAV (bs : List UInt8) : List AV := bs.map fun b => .int .u8 b.toNat
theorem opv_strBytes {P : Program} {T : TT} (hT : TOK P T) {N : Nat} {o : Oper} {σ : St} {s d e : TypeId} {x : Operand} {bs : List UInt8} {si di ei : TI} (hop : o.op = .convert s d x) (hx : evo σ.tm x = some (.str bs)) (hs : T s = some si) (hsd : si.desc = .string) (hd : T d = some di) (hdd : di.desc = .slice e) (he : T e = some ei) (hed : ei.desc = .int .u8) :
    OpV P N o σ (.slice σ.n 0 bs.length none 1) (upd σ.h σ.n (some (.cells (bytesAV bs) e))) (σ.n + 1) := by
  intro K a hsr
  obtain ⟨s1, hv, hbs⟩ := (evo_sound hsr.tr hx).str_inv
  have u1 := hT.und _ _ hs
  rw [hsd] at u1
  have u2 := hT.und _ _ hd
  rw [hdd] at u2
  have u3 := hT.und _ _ he
  rw [hed] at u3
  obtain ⟨hr1, st1, hE1⟩ := drew_ok hsr.rel (K.w.drawn + 1)
  let c := grownCap K.w s1.size 0 e
  have hc : s1.size ≤ c := grownCap_ge _ _ _ _
  have hlen : bs.length = s1.size := by rw [← hbs]; exact Array.length_toList
  let row := bytesRow s1 c
  have hrow : row.size = c := by simp [row, bytesRow]; show s1.data.size + (c - s1.size) = c; have : s1.data.size = s1.size := rfl; omega
  let K1 : Ctx := K.at_ { K.w with drawn := K.w.drawn + 1 }
  have hb : BR (K1.newOwn (.cells row e (row.size, row.size + 1)) row.size) K1.next (.cells (bytesAV bs) e) := by
    refine ⟨row, (row.size, row.size + 1), ?_, fun j hj => ?_, ?_, ?_, fun j y hy => ?_⟩
    · show (K1.w.heap.push _)[upd K1.base K1.next _ K1.next]? = _
      rw [upd_same]; simp
    · rw [decide_eq_false (by omega)]; rfl
    · show row.size = upd K1.bsz K1.next _ K1.next
      rw [upd_same]
    · show upd K1.boff K1.next 0 K1.next + _ ≤ _
      rw [upd_same]
      simp only [bytesAV, List.length_map]
      omega
    · simp only [bytesAV, List.getElem?_map, Option.map_eq_some_iff] at hy
      obtain ⟨b, hb, rfl⟩ := hy
      refine ⟨.int .u8 b.toNat, ?_, .int _ _⟩
      show row[upd K1.boff K1.next 0 K1.next + j]? = _
      rw [upd_same, Nat.zero_add]
      have hj : j < s1.data.size := by have := (List.getElem?_eq_some_iff.1 hb).1; rw [hlen] at this; exact this
      simp only [row, bytesRow]
      rw [Array.getElem?_append_left (by simpa using hj), Array.getElem?_map]
      have : s1.data[j]? = some b := by
        rw [← hbs] at hb
        rw [← Array.getElem?_toList]; exact hb
      rw [this]; rfl
  obtain ⟨k1, k2⟩ := newOwn_ok hr1 hb
  have hn : K1.next = σ.n := hsr.next
  refine ⟨.slice (some ⟨K.w.heap.size, 0, none⟩) s1.size c, K1.newOwn (.cells row e (row.size, row.size + 1)) row.size, .inl ?_, by rw [← hn]; rfl, by rw [← hn]; exact k1, by rw [← hn]; exact st1.trans k2, ?_⟩
  · unfold execOp; rw [hop]
    refine run_v ?_
    rw [hv]
    exact run_bytes_of_string K.w s d e s1 u1 u2 u3
  · rw [← hn, hlen]
    have h1 : VR (K1.newOwn (.cells row e (row.size, row.size + 1)) row.size) (.slice K1.next 0 s1.size none 1) (.slice (some ⟨(K1.newOwn (.cells row e (row.size, row.size + 1)) row.size).base K1.next, 0, none⟩) s1.size c) :=
      .slice (Nat.lt_succ_self _) (fun _ => by show 0 = upd K1.boff K1.next 0 K1.next + 0; rw [upd_same]) (fun _ => by show 0 + c * 1 ≤ upd K1.bsz K1.next _ K1.next; rw [upd_same]; omega) hc (fun _ h => by cases h)
    have e1 : (K1.newOwn (.cells row e (row.size, row.size + 1)) row.size).base K1.next = K.w.heap.size := upd_same _ _ _
    rw [e1] at h1
    exact h1
end Go.Lg

/- Binary tries with natural numbers as keys. -/
set_option linter.unusedVariables false
set_option linter.unusedSimpArgs false
set_option linter.unusedSectionVars false
namespace Go.Lg
open Go
/-- A trie: the key 0 at the root, odd keys on the left, even ones on the right. -/
inductive Trie (α : Type) where
  | nil
  | node (v : Option α) (l r : Trie α)
section
variable {α : Type}
noncomputable def Trie.get (t : Trie α) : Nat → Option α :=
  Trie.rec (motive := fun _ => Nat → Option α) (fun _ => none) (fun v _ _ gl gr k => bif Nat.beq k 0 then v else bif Nat.beq (k % 2) 1 then gl (k / 2) else gr (k / 2 - 1)) t
theorem Trie.get_nil (k : Nat) : (Trie.nil : Trie α).get k = none := rfl
theorem Trie.get_node (v : Option α) (l r : Trie α) (k : Nat) : (Trie.node v l r).get k = bif Nat.beq k 0 then v else bif Nat.beq (k % 2) 1 then l.get (k / 2) else r.get (k / 2 - 1) := rfl
def Trie.parts (t : Trie α) : Option α × Trie α × Trie α := match t with
  | .nil => (none, .nil, .nil)
  | .node v l r => (v, l, r)
theorem Trie.get_parts (t : Trie α) (k : Nat) : t.get k = bif Nat.beq k 0 then t.parts.1 else bif Nat.beq (k % 2) 1 then t.parts.2.1.get (k / 2) else t.parts.2.2.get (k / 2 - 1) := by
  cases t with
  | nil => simp only [Trie.parts, Trie.get_nil]; cases Nat.beq k 0 <;> cases Nat.beq (k % 2) 1 <;> rfl
  | node v l r => rfl
/-- Put, with the rest of the work behind it (so that the kernel has the trie in its last form). -/
noncomputable def Trie.putK {β : Type} (fuel : Nat) : Trie α → Nat → Option α → (Trie α → β) → β :=
  Nat.rec (motive := fun _ => Trie α → Nat → Option α → (Trie α → β) → β)
    (fun t _ _ K => K t)
    (fun _ ih t k x K => Trie.rec (motive := fun _ => β)
      (bif Nat.beq k 0 then K (.node x .nil .nil) else bif Nat.beq (k % 2) 1 then ih .nil (k / 2) x (fun l => K (.node none l .nil)) else ih .nil (k / 2 - 1) x (fun r => K (.node none .nil r)))
      (fun v l r _ _ => bif Nat.beq k 0 then K (.node x l r) else bif Nat.beq (k % 2) 1 then ih l (k / 2) x (fun l => K (.node v l r)) else ih r (k / 2 - 1) x (fun r => K (.node v l r))) t) fuel
noncomputable def Trie.put (t : Trie α) (k : Nat) (x : Option α) : Trie α := Trie.putK (k + 1) t k x id
theorem Trie.putK_succ {β : Type} (f : Nat) (t : Trie α) (k : Nat) (x : Option α) (K : Trie α → β) : Trie.putK (f + 1) t k x K =
    bif Nat.beq k 0 then K (.node x t.parts.2.1 t.parts.2.2) else bif Nat.beq (k % 2) 1 then Trie.putK f t.parts.2.1 (k / 2) x (fun l => K (.node t.parts.1 l t.parts.2.2)) else Trie.putK f t.parts.2.2 (k / 2 - 1) x (fun r => K (.node t.parts.1 t.parts.2.1 r)) := by
  cases t <;> rfl
theorem Trie.putK_eq {β : Type} : ∀ (f : Nat) (t : Trie α) (k : Nat) (x : Option α) (K : Trie α → β), Trie.putK f t k x K = K (Trie.putK f t k x id) := by
  intro f
  induction f generalizing β with
  | zero => intros; rfl
  | succ f ih =>
    intro t k x K
    rw [Trie.putK_succ, Trie.putK_succ]
    cases Nat.beq k 0 <;> cases Nat.beq (k % 2) 1 <;> simp only [cond_true, cond_false, id]
    · exact (ih _ _ _ (fun r => K (.node t.parts.1 t.parts.2.1 r))).trans (congrArg K (ih (β := Trie α) _ _ _ (fun r => .node t.parts.1 t.parts.2.1 r)).symm)
    · exact (ih _ _ _ (fun l => K (.node t.parts.1 l t.parts.2.2))).trans (congrArg K (ih (β := Trie α) _ _ _ (fun l => .node t.parts.1 l t.parts.2.2)).symm)
theorem nbeq (a b : Nat) : Nat.beq a b = decide (a = b) := by
  by_cases h : a = b
  · subst h; rw [decide_eq_true rfl]; exact Nat.beq_refl a
  · rw [decide_eq_false h]
    cases e : Nat.beq a b with
    | false => rfl
    | true => exact absurd (Nat.eq_of_beq_eq_true e) h
theorem Trie.putK_get : ∀ (f : Nat) (t : Trie α) (k : Nat) (x : Option α) (j : Nat), k < f → (Trie.putK f t k x id).get j = bif Nat.beq j k then x else t.get j := by
  intro f
  induction f with
  | zero => intro t k x j h; exact absurd h (Nat.not_lt_zero _)
  | succ f ih =>
    intro t k x j hk
    rw [Trie.putK_succ, Trie.get_parts t j]
    simp only [nbeq]
    by_cases h0 : k = 0
    · subst h0
      simp only [decide_true, cond_true, id, Trie.get_node, nbeq]
      by_cases hj : j = 0 <;> simp [hj]
    · simp only [h0, decide_false, cond_false]
      by_cases h1 : k % 2 = 1
      · simp only [h1, decide_true, cond_true]
        rw [Trie.putK_eq f _ _ _ (fun l => id _)]
        simp only [id, Trie.get_node, nbeq]
        rw [ih _ _ _ _ (by omega), nbeq]
        by_cases hj : j = 0
        · subst hj; simp [Ne.symm h0]
        · by_cases hj1 : j % 2 = 1
          · simp only [hj, hj1, decide_false, decide_true, cond_true, cond_false]
            by_cases e : j = k
            · subst e; simp
            · have : j / 2 ≠ k / 2 := by omega
              simp [e, this]
          · have : j ≠ k := by omega
            simp [hj, hj1, this]
      · simp only [h1, decide_false, cond_false]
        rw [Trie.putK_eq f _ _ _ (fun r => id _)]
        simp only [id, Trie.get_node, nbeq]
        rw [ih _ _ _ _ (by omega), nbeq]
        by_cases hj : j = 0
        · subst hj; simp [Ne.symm h0]
        · by_cases hj1 : j % 2 = 1
          · have : j ≠ k := by omega
            simp [hj, hj1, this]
          · simp only [hj, hj1, decide_false, cond_false]
            by_cases e : j = k
            · subst e; simp
            · have : j / 2 - 1 ≠ k / 2 - 1 := by omega
              simp [e, this]
theorem Trie.get_put (t : Trie α) (k : Nat) (x : Option α) (j : Nat) : (t.put k x).get j = if j = k then x else t.get j := by
  rw [Trie.put, Trie.putK_get _ _ _ _ _ (Nat.lt_succ_self k)]
  by_cases h : j = k
  · subst h; simp
  · rw [if_neg h, nbeq, decide_eq_false h]; rfl
theorem Trie.putK_put {β : Type} (t : Trie α) (k : Nat) (x : Option α) (K : Trie α → β) : Trie.putK (k + 1) t k x K = K (t.put k x) := Trie.putK_eq _ _ _ _ _
end
end Go.Lg

/- One operation, run: its value and what it does to own memory, by a function. -/
set_option linter.unusedSimpArgs false
set_option linter.unusedSectionVars false
namespace Go.Lg
open Go
set_option linter.unusedVariables false
/-- Blocks as data. -/
inductive EB where
  | cells (cs : List AV) (e : TypeId)
  | map (es : List (AV × AV))
  | loop (g : FuncId) (tm : Trie AV) (N : Nat) (params : Array Tmp) (assign body : Code) (state : LoopState) (pending : Option Code)
  | deferred
  | glob (b : Nat)
/-- The objects that package variables are laid in. -/
class GO where
  o : Nat → Obj
variable [GO]
noncomputable def tmF (t : Trie AV) : Nat → AV := fun i => match t.get i with
  | some x => x
  | none => .tuple []
noncomputable def EB.toBlk : EB → Blk
  | .cells cs e => .cells cs e
  | .map es => .map es
  | .loop _ tm N ps a b s p => .loop ⟨tmF tm, N, ps, a, b, s, p⟩
  | .deferred => .deferred
  | .glob b => .glob b (GO.o b)
noncomputable def hF (t : Trie EB) : Heap := fun i => match t.get i with
  | some b => some b.toBlk
  | none => none
theorem tmF_put (t : Trie AV) (d : Nat) (x : AV) : tmF (t.put d (some x)) = upd (tmF t) d x := by
  funext i; simp only [tmF, Trie.get_put, upd]
  by_cases h : i = d <;> simp [h]
theorem hF_put (t : Trie EB) (d : Nat) (b : EB) : hF (t.put d (some b)) = upd (hF t) d (some b.toBlk) := by
  funext i; simp only [hF, Trie.get_put, upd]
  by_cases h : i = d <;> simp [h]
theorem hF_del (t : Trie EB) (d : Nat) : hF (t.put d none) = upd (hF t) d none := by
  funext i; simp only [hF, Trie.get_put, upd]
  by_cases h : i = d <;> simp [h]
/-- What an operation does to own memory. -/
inductive HC where
  | same
  | put (id : Nat) (b : EB)
  | new (b : EB)
  | mov (id : Nat) (b : EB)
noncomputable def HC.h (c : HC) (h : Heap) (n : Nat) : Heap := match c with
  | .same => h
  | .put id b => upd h id (some b.toBlk)
  | .new b => upd h n (some b.toBlk)
  | .mov id b => upd (upd h id none) n (some b.toBlk)
noncomputable def HC.n (c : HC) (n : Nat) : Nat := match c with
  | .same => n
  | .put _ _ => n
  | .new _ => n + 1
  | .mov _ _ => n + 1
noncomputable def HC.t (c : HC) (h : Trie EB) (n : Nat) : Trie EB := match c with
  | .same => h
  | .put id b => h.put id (some b)
  | .new b => h.put n (some b)
  | .mov id b => (h.put id none).put n (some b)
theorem HC.t_eq (c : HC) (h : Trie EB) (n : Nat) : hF (c.t h n) = c.h (hF h) n := by
  cases c <;> simp only [HC.t, HC.h, hF_put, hF_del]

/-! the last form of a value -/
section force
variable {β : Type}
noncomputable def fNat (n : Nat) (K : Nat → β) : β := Nat.rec (motive := fun _ => β) (K 0) (fun m _ => K (Nat.succ m)) n
theorem fNat_eq (n : Nat) (K : Nat → β) : fNat n K = K n := by cases n <;> rfl
noncomputable def fInt (n : Int) (K : Int → β) : β := Int.rec (motive := fun _ => β) (fun m => fNat m fun m => K (.ofNat m)) (fun m => fNat m fun m => K (.negSucc m)) n
theorem fInt_eq (n : Int) (K : Int → β) : fInt n K = K n := by
  cases n with
  | ofNat m => exact fNat_eq m (fun m => K (.ofNat m))
  | negSucc m => exact fNat_eq m (fun m => K (.negSucc m))
noncomputable def fBool (b : Bool) (K : Bool → β) : β := Bool.rec (motive := fun _ => β) (K false) (K true) b
theorem fBool_eq (b : Bool) (K : Bool → β) : fBool b K = K b := by cases b <;> rfl
noncomputable def fOpt {α : Type} (f : α → (α → β) → β) (o : Option α) (K : Option α → β) : β := Option.rec (motive := fun _ => β) (K none) (fun a => f a fun a => K (some a)) o
theorem fOpt_eq {α : Type} {f : α → (α → β) → β} (hf : ∀ a K, f a K = K a) (o : Option α) (K : Option α → β) : fOpt f o K = K o := by
  cases o
  · rfl
  · exact hf _ _
noncomputable def fList {α : Type} (f : α → (α → β) → β) (l : List α) : (List α → β) → β :=
  List.rec (motive := fun _ => (List α → β) → β) (fun K => K []) (fun a _ ih K => f a fun a => ih fun l => K (a :: l)) l
theorem fList_eq {α : Type} {f : α → (α → β) → β} (hf : ∀ a K, f a K = K a) : ∀ (l : List α) (K : List α → β), fList f l K = K l
  | [], _ => rfl
  | a :: l, K => by
    show f a (fun a => fList f l fun l => K (a :: l)) = _
    rw [hf, fList_eq hf l]
noncomputable def fByte (b : UInt8) (K : UInt8 → β) : β := fNat b.toNat fun n => K (UInt8.ofNat n)
theorem fByte_eq (b : UInt8) (K : UInt8 → β) : fByte b K = K b := by
  unfold fByte; rw [fNat_eq, UInt8.ofNat_toNat]
noncomputable def fAV (d : Nat) : AV → (AV → β) → β :=
  Nat.rec (motive := fun _ => AV → (AV → β) → β) (fun x K => K x)
    (fun _ ih x K => match x with
      | .bool b => fBool b fun b => K (.bool b)
      | .int k n => fInt n fun n => K (.int k n)
      | .str s => fList fByte s fun s => K (.str s)
      | .view rows => fList (fList ih) rows fun rows => K (.view rows)
      | .empty => K .empty
      | .vptr cs => fList ih cs fun cs => K (.vptr cs)
      | .ptr id off => fNat id fun id => fNat off fun off => K (.ptr id off)
      | .nilptr => K .nilptr
      | .slice id off len cap sz => fNat id fun id => fNat off fun off => fNat len fun len => fOpt fNat cap fun cap => fNat sz fun sz => K (.slice id off len cap sz)
      | .map id => fNat id fun id => K (.map id)
      | .func fn a b => fList ih a fun a => fList ih b fun b => K (.func fn a b)
      | .yieldf id => fNat id fun id => K (.yieldf id)
      | .nilFunc => K .nilFunc
      | .iface t v => ih v fun v => K (.iface t v)
      | .nilIface => K .nilIface
      | .agg cs => fList ih cs fun cs => K (.agg cs)
      | .tuple cs => fList ih cs fun cs => K (.tuple cs)
      | .any => K .any) d
theorem fAV_eq : ∀ (d : Nat) (x : AV) (K : AV → β), fAV d x K = K x
  | 0, _, _ => rfl
  | d + 1, x, K => by
    have ih := fAV_eq d
    cases x with
    | bool b => exact fBool_eq b fun b => K (.bool b)
    | int k n => exact fInt_eq n fun n => K (.int k n)
    | str s => exact fList_eq fByte_eq s fun s => K (.str s)
    | view rows => exact fList_eq (fun a K => fList_eq ih a K) rows fun rows => K (.view rows)
    | vptr cs => exact fList_eq ih cs fun cs => K (.vptr cs)
    | ptr id off => exact (fNat_eq id fun id => fNat off fun off => K (.ptr id off)).trans (fNat_eq off fun off => K (.ptr id off))
    | slice id off len cap sz =>
      show (fNat id fun id => fNat off fun off => fNat len fun len => fOpt fNat cap fun cap => fNat sz fun sz => K (.slice id off len cap sz)) = _
      simp only [fNat_eq, fOpt_eq fNat_eq]
    | map id => exact fNat_eq id fun id => K (.map id)
    | func fn a b =>
      show (fList (fAV d) a fun a => fList (fAV d) b fun b => K (.func fn a b)) = _
      rw [fList_eq ih, fList_eq ih]
    | yieldf id => exact fNat_eq id fun id => K (.yieldf id)
    | iface t v => exact ih v fun v => K (.iface t v)
    | agg cs => exact fList_eq ih cs fun cs => K (.agg cs)
    | tuple cs => exact fList_eq ih cs fun cs => K (.tuple cs)
    | _ => rfl
noncomputable def fEB (b : EB) (K : EB → β) : β := match b with
  | .cells cs e => fList (fAV 9) cs fun cs => K (.cells cs e)
  | .map es => fList (fun p K => fAV 9 p.1 fun a => fAV 9 p.2 fun b => K (a, b)) es fun es => K (.map es)
  | b => K b
theorem fEB_eq (b : EB) (K : EB → β) : fEB b K = K b := by
  cases b with
  | cells cs e => exact fList_eq (fAV_eq 9) _ _
  | map es => exact fList_eq (f := fun p K => fAV 9 p.1 fun a => fAV 9 p.2 fun b => K (a, b)) (fun p K => by simp only [fAV_eq]) es (fun es => K (.map es))
  | _ => rfl
noncomputable def HC.tK (c : HC) (h : Trie EB) (n : Nat) (K : Trie EB → Nat → β) : β := match c with
  | .same => K h n
  | .put id b => fNat id fun id => fEB b fun b => Trie.putK (id + 1) h id (some b) fun h => K h n
  | .new b => fEB b fun b => Trie.putK (n + 1) h n (some b) fun h => fNat (n + 1) fun m => K h m
  | .mov id b => fNat id fun id => fEB b fun b => Trie.putK (id + 1) h id none fun h => Trie.putK (n + 1) h n (some b) fun h => fNat (n + 1) fun m => K h m
theorem HC.tK_eq (c : HC) (h : Trie EB) (n : Nat) (K : Trie EB → Nat → β) : c.tK h n K = K (c.t h n) (c.n n) := by
  cases c with
  | same => rfl
  | put id b => simp only [HC.tK, HC.t, HC.n, fNat_eq, fEB_eq, Trie.putK_put]
  | new b => simp only [HC.tK, HC.t, HC.n, fNat_eq, fEB_eq, Trie.putK_put]
  | mov id b => simp only [HC.tK, HC.t, HC.n, fNat_eq, fEB_eq, Trie.putK_put]
end force

/-! the operations -/
noncomputable def srcA (h : Heap) (sz : Nat) (x : AV) : Option (Nat × List AV) :=
  match x with
  | .view rows => if (rows.all fun r => r.length == sz) = true then some (rows.length, rows.flatten) else none
  | .empty => some (0, [])
  | .slice id off len _ sz' => if sz' = sz then match h id with
    | some (.cells cs _) => if off + len * sz ≤ cs.length then some (len, (cs.drop off).take (len * sz)) else none
    | _ => none
    else none
  | .str s => if sz = 1 then some (s.length, s.map fun b => .int .u8 b.toNat) else none
  | _ => none
theorem srcA_sound {h : Heap} {sz k : Nat} {x : AV} {news : List AV} (e : srcA h sz x = some (k, news)) : SrcA h sz x k news := by
  unfold srcA at e
  split at e
  · split at e <;> simp at e
    rename_i rows hr
    obtain ⟨rfl, rfl⟩ := e
    exact ⟨rfl, rfl, fun r hm => by have := List.all_eq_true.1 hr r hm; simpa using this⟩
  · simp at e; obtain ⟨rfl, rfl⟩ := e; exact ⟨rfl, rfl⟩
  · split at e
    · split at e
      · split at e <;> simp at e
        rename_i hsz _ cs e2 hh hl
        obtain ⟨rfl, rfl⟩ := e
        exact ⟨hsz, rfl, cs, e2, hh, hl, rfl⟩
      · cases e
    · cases e
  · split at e <;> simp at e
    rename_i hsz
    obtain ⟨rfl, rfl⟩ := e
    exact ⟨hsz, rfl, rfl⟩
  · cases e
noncomputable def elemOf (T : TT) (t : TypeId) : Option (TypeId × TI) :=
  match T t with
  | some ti => match ti.desc with
    | .slice e => match T e with
      | some ei => some (e, ei)
      | none => none
    | _ => none
  | none => none
theorem elemOf_sound {T : TT} {t e : TypeId} {ei : TI} (h : elemOf T t = some (e, ei)) : ∃ ti, T t = some ti ∧ ti.desc = .slice e ∧ T e = some ei := by
  unfold elemOf at h
  split at h
  · rename_i ti ht
    split at h
    · rename_i e' hd
      split at h
      · rename_i ei' he; simp at h; obtain ⟨rfl, rfl⟩ := h; exact ⟨ti, ht, hd, he⟩
      · cases h
    · cases h
  · cases h
noncomputable def okSize (ei : TI) (m : Nat) : Bool := Nat.ble ((2 * m + 768) * ei.bytes) 281474976710656 && (Nat.ble m 4611686018427387904 && Nat.blt 0 ei.bytes)
theorem okSize_sound {ei : TI} {m : Nat} (h : okSize ei m = true) : (2 * m + 768) * ei.bytes ≤ 281474976710656 ∧ m ≤ 4611686018427387904 ∧ 0 < ei.bytes := by
  simp only [okSize, Bool.and_eq_true] at h
  exact ⟨Nat.le_of_ble_eq_true h.1, Nat.le_of_ble_eq_true h.2.1, Nat.le_of_ble_eq_true h.2.2⟩
/-- What is appended to a slice of own memory. -/
noncomputable def appO (h : Heap) (n : Nat) (e : TypeId) (ei : TI) (k : Nat) (news : List AV) (id off len : Nat) (cap : Option Nat) (cs : List AV) : Option (AV × HC) :=
  match cap with
  | none => if Nat.beq (off + len * ei.size) cs.length = true then some (.slice n 0 (len + k) none ei.size, .mov id (.cells (cs.drop off ++ news) e)) else none
  | some c => if Nat.ble (len + k) c = true then (if Nat.ble (off + c * ei.size) cs.length = true then some (.slice id off (len + k) (some c) ei.size, .put id (.cells (wr cs (off + len * ei.size) news) e)) else none)
    else if Nat.ble (off + len * ei.size) cs.length = true then some (.slice n 0 (len + k) none ei.size, .new (.cells ((cs.drop off).take (len * ei.size) ++ news) e)) else none
noncomputable def appA (T : TT) (h : Heap) (n : Nat) (t t2 : TypeId) (x z : AV) : Option (AV × HC) :=
  match elemOf T t with
  | some (e, ei) => match T t2 with
    | some i2 => if notInt i2.desc = true then match srcA h ei.size z with
      | some (k, news) => if Nat.beq k 0 = true then (match x with
          | .empty => some (.empty, .same)
          | .slice id off len cap sz => some (.slice id off len cap sz, .same)
          | _ => none)
        else match x with
        | .empty => if okSize ei k = true then some (.slice n 0 k none ei.size, .new (.cells news e)) else none
        | .slice id off len cap sz => if sz = ei.size then if okSize ei (len + k) = true then if news.all scalA = true then match h id with
          | some (.cells cs e') => if e' = e then appO h n e ei k news id off len cap cs else none
          | _ => none
          else none else none else none
        | _ => none
      | none => none
      else none
    | none => none
  | none => none
noncomputable def sliceA (T : TT) (t : TypeId) (x : AV) (l h m : Option Nat) : Option AV :=
  match elemOf T t with
  | some (_, ei) => match x with
    | .view rows => match m with
      | none => if bnd l 0 ≤ bnd h rows.length then if bnd h rows.length ≤ rows.length then if (rows.all fun r => r.length == ei.size) = true then some (.view ((rows.take (bnd h rows.length)).drop (bnd l 0))) else none else none else none
      | _ => none
    | .slice id off len cap sz => if bnd l 0 ≤ bnd h len then if bnd h len ≤ len then if sz = ei.size then match m with
      | none => some (.slice id (off + bnd l 0 * sz) (bnd h len - bnd l 0) (cap.map (· - bnd l 0)) sz)
      | some m' => if bnd h len ≤ m' then if m' ≤ len then if h.isSome = true then some (.slice id (off + bnd l 0 * sz) (bnd h len - bnd l 0) (some (m' - bnd l 0)) sz) else none else none else none
      else none else none else none
    | _ => none
  | none => none
noncomputable def litA (T : TT) (n : Nat) (t : TypeId) (len : Nat) (ps : List (Nat × AV)) : Option (AV × HC) :=
  match elemOf T t with
  | some (e, ei) => if Nat.blt 0 (len * ei.size) = true then if Nat.ble (len * ei.size) 16777216 = true then if Nat.beq ei.zero.length ei.size = true then match fillA (fun j => some (j * ei.size, ei.size)) (repA len ei.zero) ps with
    | some ys => if Nat.beq ys.length (len * ei.size) = true then some (.slice n 0 len (some len) ei.size, .new (.cells ys e)) else none
    | none => none
    else none else none else none
  | none => none
noncomputable def storeA (T : TT) (h : Heap) (t : TypeId) (x y : AV) : Option (AV × HC) :=
  match T t with
  | some i => match x with
    | .ptr id off => match h id with
      | some (.cells cs e) => if Nat.beq (cellsA y).length i.size = true then if Nat.ble (off + i.size) cs.length = true then if (cellsA y).all scalA = true then some (.tuple [], .put id (.cells (wr cs off (cellsA y)) e)) else none else none else none
      | _ => none
    | _ => none
  | none => none
noncomputable def sameH : Option AV → Option (AV × HC)
  | some x => some (x, .same)
  | none => none
noncomputable def binA (eq : TypeId → Bool) (T : TT) (op : BinOp) (t : TypeId) (a b : AV) : Option AV :=
  match a, b with
  | .agg xs, .agg ys => if eq t = true then match T t with
    | some i => match i.desc with
      | .struct fs => match op with
        | .eql => match eqA T fs.toList xs ys with
          | some r => some (.bool r)
          | none => none
        | .neq => match eqA T fs.toList xs ys with
          | some r => some (.bool !r)
          | none => none
        | _ => none
      | _ => none
    | none => none
    else none
  | a, b => binv T op t a b
noncomputable def nilA (T : TT) (op : BinOp) (t : TypeId) (a : AV) (c : Value) : Option AV :=
  match T t with
  | some ti => match nilEq ti.desc a c with
    | some b => match op with
      | .eql => some (.bool b)
      | .neq => some (.bool !b)
      | _ => none
    | none => match ti.desc with
      | .interface _ => match a with
        | .nilIface => match c with
          | .nilIface => match op with
            | .eql => some (.bool true)
            | .neq => some (.bool false)
            | _ => none
          | _ => none
        | _ => none
      | _ => none
  | none => none
noncomputable def isConst : Operand → Option Value
  | .const c => some c
  | _ => none
noncomputable def mkSlA (T : TT) (n : Nat) (t : TypeId) (l c : Int) : Option (AV × HC) :=
  match elemOf T t with
  | some (e, ei) => if 0 ≤ l then if l ≤ c then if Nat.ble (ei.bytes * c.toNat) 281474976710656 = true then if Nat.ble c.toNat 4611686018427387904 = true then some (.slice n 0 l.toNat (some c.toNat) ei.size, .new (.cells (repA c.toNat ei.zero) e)) else none else none else none else none
  | none => none
/-- A map's key and element: the zero of the element. -/
noncomputable def mapOf (T : TT) (t : TypeId) : Option AV :=
  match T t with
  | some ti => match ti.desc with
    | .map kt et => match T kt with
      | some ki => match ki.desc with
        | .int _ => match T et with
          | some ei => zeroA ei
          | none => none
        | _ => none
      | none => none
    | _ => none
  | none => none
noncomputable def lookA (T : TT) (h : Heap) (t : TypeId) (x ix : AV) (ok : Bool) : Option AV :=
  match x, ix with
  | .map id, .int kk k => match h id with
    | some (.map es) => match mapOf T t with
      | some z => match findM k kk es 0 with
        | some r => some (gotM z ok r)
        | none => none
      | none => none
    | _ => none
  | _, _ => none
noncomputable def updA (T : TT) (h : Heap) (t : TypeId) (x ix y : AV) : Option (AV × HC) :=
  match x, ix with
  | .map id, .int kk k => match h id with
    | some (.map es) => match mapOf T t with
      | some _ => match findM k kk es 0 with
        | some r => some (.tuple [], .put id (.map (putM (.int kk k) y es r)))
        | none => none
      | none => none
    | _ => none
  | _, _ => none
noncomputable def keyA (T : TT) (kt : TypeId) (x : AV) : Option KN :=
  match T kt with
  | some ki => match ki.desc with
    | .struct _ => match nK x with
      | some (b, l) => match b with
        | true => if keyShape T 4 kt l = true then some (true, l) else none
        | false => none
      | none => none
    | _ => none
  | none => none
noncomputable def keysA (T : TT) (kt : TypeId) (es : List (AV × AV)) : Bool := es.all fun p => (keyA T kt p.1).isSome
noncomputable def mapK (eq : TypeId → Bool) (T : TT) (h : Heap) (t : TypeId) (x ix : AV) : Option (Nat × TypeId × TypeId × List (AV × AV) × Option (Nat × AV)) :=
  match x with
  | .map id => match h id with
    | some (.map es) => match T t with
      | some ti => match ti.desc with
        | .map kt et => match eq (keyBase + kt) with
          | true => match keyA T kt ix with
            | some q => match keysA T kt es with
              | true => match findU q es with
                | some r => some (id, kt, et, es, r)
                | none => none
              | false => none
            | none => none
          | false => none
        | _ => none
      | none => none
    | _ => none
  | _ => none
noncomputable def lookK2 (eq : TypeId → Bool) (T : TT) (h : Heap) (t : TypeId) (x ix : AV) (ok : Bool) : Option AV :=
  match mapK eq T h t x ix with
  | some (_, _, et, _, r) => match T et with
    | some ei => match zeroA ei with
      | some z => some (gotM z ok r)
      | none => none
    | none => none
  | none => none
noncomputable def updK2 (eq : TypeId → Bool) (T : TT) (h : Heap) (t : TypeId) (x ix y : AV) : Option (AV × HC) :=
  match mapK eq T h t x ix with
  | some (id, _, _, es, r) => some (.tuple [], .put id (.map (putM ix y es r)))
  | none => none
def notStr : AV → Bool
  | .str _ => false
  | _ => true
noncomputable def bytA (T : TT) (h : Heap) (s d : TypeId) (x : AV) : Option AV :=
  match elemOf T s with
  | some (_, ei) => match ei.desc with
    | .int .u8 => match T d with
      | some di => match di.desc with
        | .string => if notStr x = true then match srcA h 1 x with
          | some (_, news) => match bytesOf news with
            | some bs => some (.str bs)
            | none => none
          | none => none
          else none
        | _ => none
      | none => none
    | _ => none
  | none => none
noncomputable def strA (T : TT) (n : Nat) (s d : TypeId) (x : AV) : Option (AV × HC) :=
  match x with
  | .str bs => match T s with
    | some si => match si.desc with
      | .string => match elemOf T d with
        | some (e, ei) => match ei.desc with
          | .int .u8 => some (.slice n 0 bs.length none 1, .new (.cells (bytesAV bs) e))
          | _ => none
        | none => none
      | _ => none
    | none => none
  | _ => none
/-- One operation. -/
noncomputable def eop (eq : TypeId → Bool) (T : TT) (tm : Nat → AV) (h : Heap) (n : Nat) (op : Op) : Option (AV × HC) :=
  match op with
  | .alloc t => match T t with
    | some i => some (.ptr n 0, .new (.cells i.zero t))
    | none => none
  | .box t x => match evo tm x with
    | some y => if known y = true then some (.ptr n 0, .new (.cells (cellsA y) t)) else none
    | none => none
  | .store t a v => match evo tm a, evo tm v with
    | some x, some y => storeA T h t x y
    | _, _ => none
  | .buildSlice t len parts => match parts.toList with
    | [] => if Nat.beq len 0 = true then match elemOf T t with
      | some _ => some (.empty, .same)
      | none => none
      else litA T n t len []
    | p :: ps => match evp tm (p :: ps) with
      | some ps => litA T n t len ps
      | none => none
  | .slice t x lo hi mx => match evo tm x, natO tm lo, natO tm hi, natO tm mx with
    | some x, some l, some h', some m => sameH (sliceA T t x l h' m)
    | _, _, _, _ => none
  | .call { callee := .builtin .append, args := ⟨[x, z]⟩, argTypes := ⟨[t, t2]⟩ } => match evo tm x, evo tm z with
    | some x, some z => appA T h n t t2 x z
    | _, _ => none
  | .binOp op t x y yt => match evo tm x, evo tm y with
    | some a, some b => match binA eq T op t a b with
      | some r => some (r, .same)
      | none => match isConst y with
        | some c => sameH (nilA T op t a c)
        | none => none
    | _, _ => none
  | .makeMap t r => match r with
    | none => some (.map n, .new (.map []))
    | some _ => none
  | .makeSlice t x y => match evo tm x, evo tm y with
    | some (.int _ l), some (.int _ c) => mkSlA T n t l c
    | _, _ => none
  | .lookup t x ix ok => match evo tm x, evo tm ix with
    | some a, some b => match lookA T h t a b ok with
      | some r => some (r, .same)
      | none => sameH (lookK2 eq T h t a b ok)
    | _, _ => none
  | .mapUpdate t x ix y => match evo tm x, evo tm ix, evo tm y with
    | some a, some b, some c => match updA T h t a b c with
      | some r => some r
      | none => updK2 eq T h t a b c
    | _, _, _ => none
  | .insert t x ix y => match evo tm x, evo tm ix, evo tm y with
    | some a, some b, some c => match updA T h t a b c with
      | some r => some r
      | none => updK2 eq T h t a b c
    | _, _, _ => none
  | .convert s d x => match evo tm x with
    | some a => match pvConv T s d a with
      | some y => some (y, .same)
      | none => match bytA T h s d a with
        | some r => some (r, .same)
        | none => strA T n s d a
    | none => none
  | .typeAssert x _ t ok => match evo tm x with
    | some a => sameH (assA T t a ok)
    | none => none
  | .call { callee := .builtin .max, args := ⟨[x, y]⟩, .. } => match evo tm x, evo tm y with
    | some (.int k a), some (.int k' b) => if k = k' then some (.int k (if b > a then b else a), .same) else none
    | _, _ => none
  | op => sameH (pvz T tm h op)
end Go.Lg

/- One operation, run: appends. -/
set_option linter.unusedSimpArgs false
set_option linter.unusedSectionVars false
namespace Go.Lg
open Go
variable [GO]
set_option linter.unusedVariables false
section
variable {P : Program} {T : TT} (hT : TOK P T) {N : Nat} {o : Oper} {tm : Nat → AV} {h : Heap} {n : Nat} {df : List Nat}
theorem sameH_sound {x : Option AV} {r : AV × HC} (e : sameH x = some r) : x = some r.1 ∧ r.2 = .same := by
  cases x <;> simp [sameH] at e
  subst e; exact ⟨rfl, rfl⟩
theorem app_exec {K : Ctx} {a : Act} {t t2 : TypeId} {x z : Operand} {s v : Value} {w' : World} (hop : o.op = .call { callee := .builtin .append, args := #[x, z], argTypes := #[t, t2] }) (hx : a.eval x = s)
    (h1 : (Builtin.append_ #[t, t2] o.type #[s, a.eval z]).run P K.w = .ok v w') : (execOp a.eval o).run P K.w = .ok (.value v) w' := by
  unfold execOp; rw [hop]
  simp only [resolve, List.map_toArray, List.map_cons, List.map_nil]
  rw [run_bindv (run_purev _ _)]
  unfold invoke
  simp only [builtin]
  rw [hx, run_bindv h1]; rfl
include hT in
theorem app_room_run {t t2 ty e : TypeId} {ti ei i2 : TI} {w w' : World} {a : Option Addr} {len c k : Nat} {y : Value} {arr : Array Value} (ht : T t = some ti) (hd : ti.desc = .slice e) (he : T e = some ei) (ht2 : T t2 = some i2) (hn2 : notInt i2.desc = true)
    (l1 : (Builtin.lenOf y).run P w = .ok k w) (l2 : (Builtin.firstCells ei.size k y).run P w = .ok arr w) (hroom : len + k ≤ c)
    (hst : (match a with | some a => storeCells (a.add (len * ei.size)) arr.toList | none => pure () : Sem Unit).run P w = .ok () w') :
    (Builtin.append_ #[t, t2] ty #[.slice a len c, y]).run P w = .ok (.slice a (len + k) c) w' := by
  have hu := r_und hT ht w
  rw [hd] at hu
  unfold Builtin.append_
  simp only [List.getElem?_toArray, List.getElem?_cons_zero, List.getElem?_cons_succ]
  rw [run_bindv hu]
  simp only
  rw [run_bindv (r_size hT he w)]
  rw [run_bindv (r_und hT ht2 w)]
  refine (run_bindv (a := false) (w' := w) ?hzz).trans ?_
  case hzz => cases hh : i2.desc <;> first | rfl | (rw [hh] at hn2; cases hn2)
  simp only [Bool.false_eq_true, if_false, Bool.not_false, if_true]
  rw [run_bindv l1, if_pos hroom, run_bindv l2]
  cases a with
  | none => simp only at hst ⊢; cases hst; rfl
  | some a => simp only at hst ⊢; rw [run_bindv hst]; rfl
include hT in
/-- Nothing is appended. -/
theorem opv_app_zero {t t2 e : TypeId} {ti ei i2 : TI} {x z : Operand} {a src : AV} {news : List AV} (hop : o.op = .call { callee := .builtin .append, args := #[x, z], argTypes := #[t, t2] }) (ht : T t = some ti) (hd : ti.desc = .slice e) (he : T e = some ei) (ht2 : T t2 = some i2) (hn2 : notInt i2.desc = true)
    (hx : evo tm x = some a) (hz : evo tm z = some src) (hs : SrcA h ei.size src 0 news) (ha : a = .empty ∨ ∃ id off len cap sz, a = .slice id off len cap sz) : OpV P N o ⟨tm, h, n, df⟩ a h n := by
  refine opv_of fun K ac hsr => ?_
  have hvx := evo_sound hsr.tr hx
  have hvz := evo_sound hsr.tr hz
  obtain ⟨l1, arr, l2, l3⟩ := src_run (P := P) hsr.rel hs hvz
  have hl0 := hs.length
  have harr : arr = #[] := by
    have := l3.1; rw [hl0] at this; simp at this; exact this
  subst harr
  generalize hhx : ac.eval x = vx at hvx
  have hsl : ∃ ad len c, vx = .slice ad len c ∧ len ≤ c := by
    rcases ha with rfl | ⟨id, off, len, cap, sz, rfl⟩
    · cases hvx; exact ⟨_, _, _, rfl, Nat.le_refl _⟩
    · cases hvx; exact ⟨_, _, _, rfl, by assumption⟩
  obtain ⟨ad, len, c, rfl, hlc⟩ := hsl
  exact ⟨_, app_exec hop hhx (app_room_run hT ht hd he ht2 hn2 l1 l2 (by omega) (by cases ad <;> rfl)), hvx⟩
include hT in
/-- What is appended finds room. -/
theorem opv_app_room {t t2 e : TypeId} {ti ei i2 : TI} {x z : Operand} {src : AV} {news cs : List AV} {id off len k c : Nat} (hop : o.op = .call { callee := .builtin .append, args := #[x, z], argTypes := #[t, t2] }) (ht : T t = some ti) (hd : ti.desc = .slice e) (he : T e = some ei) (ht2 : T t2 = some i2) (hn2 : notInt i2.desc = true)
    (hx : evo tm x = some (.slice id off len (some c) ei.size)) (hz : evo tm z = some src) (hs : SrcA h ei.size src k news) (hH : h id = some (.cells cs e)) (hk : 0 < k) (hroom : len + k ≤ c) (hl : off + c * ei.size ≤ cs.length) (hsc : ∀ y, y ∈ news → scalA y = true) :
    OpV P N o ⟨tm, h, n, df⟩ (.slice id off (len + k) (some c) ei.size) (upd h id (some (.cells (wr cs (off + len * ei.size) news) e))) n := by
  intro K ac hsr
  have hvx := evo_sound hsr.tr hx
  have hvz := evo_sound hsr.tr hz
  obtain ⟨l1, arr, l2, l3⟩ := src_run (P := P) hsr.rel hs hvz
  generalize hhx : ac.eval x = vx at hvx
  cases hvx with
  | @slice _ _ _ _ _ o' c' hid ho hc hl' hcap =>
    have hcc := hcap c rfl
    subst hcc
    have hc0 : 0 < c' := by omega
    have hmul : (len + k) * ei.size ≤ c' * ei.size := Nat.mul_le_mul_right _ hroom
    rw [Nat.add_mul] at hmul
    have hnl := hs.length
    obtain ⟨w', h1, h2, h3⟩ := store_cells (P := P) news arr.toList K h cs (off + len * ei.size) 0 hsr.rel hH (by omega) l3 hsc
    refine ⟨.slice (some ⟨K.base id, o', none⟩) (len + k) c', K.at_ w', .inl (app_exec hop hhx (app_room_run hT ht hd he ht2 hn2 l1 l2 hroom ?_)), hsr.next, h2, h3, ?_⟩
    · simp only [add_plain]
      rw [ho hc0, Nat.add_assoc]
      exact h1
    · exact (VR.slice (K := K) (cap := some c') hid ho hc hroom hcap).mono (h3.ext hsr.rel)
include hT in
/-- What is appended finds no room. -/
theorem opv_app_grow {t t2 e : TypeId} {ti ei i2 : TI} {x z : Operand} {src : AV} {news cs : List AV} {id off len k c : Nat} (hop : o.op = .call { callee := .builtin .append, args := #[x, z], argTypes := #[t, t2] }) (ht : T t = some ti) (hd : ti.desc = .slice e) (he : T e = some ei) (ht2 : T t2 = some i2) (hn2 : notInt i2.desc = true)
    (hx : evo tm x = some (.slice id off len (some c) ei.size)) (hz : evo tm z = some src) (hs : SrcA h ei.size src k news) (hH : h id = some (.cells cs e)) (hroom : c < len + k) (hl : off + len * ei.size ≤ cs.length)
    (hsm : (2 * (len + k) + 768) * ei.bytes ≤ 281474976710656) (hsm2 : len + k ≤ 4611686018427387904) (hb : 0 < ei.bytes) :
    OpV P N o ⟨tm, h, n, df⟩ (.slice n 0 (len + k) none ei.size) (upd h n (some (.cells ((cs.drop off).take (len * ei.size) ++ news) e))) (n + 1) := by
  intro K ac hsr
  have hvx := evo_sound hsr.tr hx
  have hvz := evo_sound hsr.tr hz
  have hid0 : h id ≠ none := by rw [hH]; simp
  have hidlt := hsr.rel.lt id hid0
  generalize hhx : ac.eval x = vx at hvx
  cases hvx with
  | @slice _ _ _ _ _ o' c' hid ho hc hl' hcap =>
    have hcc := hcap c rfl
    subst hcc
    have hn := hsr.next
    simp only at hn
    rw [← hn]
    obtain ⟨K', c2, h1, h2, h3, h4, h5⟩ := grow_run hT (ty := o.type) hsr.rel ht hd he ht2 hn2 (a := some ⟨K.base id, o', none⟩) (len := len) (c := c') (olds := (cs.drop off).take (len * ei.size)) hroom hsm hsm2 hb (fun K' hE hsame => by
      by_cases hz : len * ei.size = 0
      · refine ⟨#[], by simp [Builtin.firstCells, hz, loadCells, loadCellsFrom], ?_⟩
        rw [hz, List.take_zero]; exact VRs.nil K'
      · have hp : 0 < len := Nat.pos_of_ne_zero (fun e => hz (by rw [e]; simp))
        rw [ho (by omega)]
        obtain ⟨m1, m2, m3⟩ := hE.mu id hidlt
        have hbr := (hsr.rel.br id _ hH).mono hE hidlt (hsame _ (hsr.rel.size_lt hid0))
        obtain ⟨vs, g1, g2⟩ := own_cells hbr off
        rw [m1, m2] at g2
        have hlen : (vs.take (len * ei.size)).length = len * ei.size := by rw [List.length_take, g1.1, List.length_drop]; omega
        have := run_loadCells_list (P := P) (w := K'.w) ⟨K.base id, K.boff id + off, none⟩ (vs.take (len * ei.size)) (fun j v hj => by
          rw [add_plain]; rw [List.getElem?_take] at hj
          split at hj
          · exact g2 j v hj
          · cases hj)
        rw [hlen] at this
        exact ⟨_, this, by simpa using g1.take _⟩) (by rw [List.length_take, List.length_drop]; omega) hs hvz
    exact ⟨_, K', .inl (app_exec hop hhx h1), h2, h3, h4, h5⟩
include hT in
theorem appA_sound {t t2 : TypeId} {x z : Operand} {a b : AV} {r : AV × HC} (hop : o.op = .call { callee := .builtin .append, args := #[x, z], argTypes := #[t, t2] }) (hx : evo tm x = some a) (hz : evo tm z = some b)
    (e : appA T h n t t2 a b = some r) : OpV P N o ⟨tm, h, n, df⟩ r.1 (r.2.h h n) (r.2.n n) := by
  unfold appA at e
  split at e
  · rename_i el ei hel
    obtain ⟨ti, ht, hd, he⟩ := elemOf_sound hel
    split at e
    · rename_i i2 ht2
      split at e
      · rename_i hn2
        split at e
        · rename_i k news hsrc
          have hsr := srcA_sound hsrc
          split at e
          · rename_i hk
            have hk0 : k = 0 := Nat.eq_of_beq_eq_true hk
            subst hk0
            split at e
            · cases e; exact opv_app_zero hT hop ht hd he ht2 hn2 hx hz hsr (.inl rfl)
            · cases e; exact opv_app_zero hT hop ht hd he ht2 hn2 hx hz hsr (.inr ⟨_, _, _, _, _, rfl⟩)
            · cases e
          · rename_i hk
            have hk0 : 0 < k := Nat.pos_of_ne_zero fun h0 => hk (by subst h0; rfl)
            split at e
            · split at e
              · rename_i hok
                cases e
                obtain ⟨h1, h2, h3⟩ := okSize_sound hok
                exact opv_append_new hT (σ := ⟨tm, h, n, df⟩) hop ht hd he ht2 hn2 hx hz hsr hk0 h1 h2 h3
              · cases e
            · split at e
              · rename_i hsz
                split at e
                · rename_i hok
                  obtain ⟨h1, h2, h3⟩ := okSize_sound hok
                  split at e
                  · rename_i hsc
                    have hsc' : ∀ c, c ∈ news → scalA c = true := fun c hc => List.all_eq_true.1 hsc c hc
                    split at e
                    · rename_i cs e' hH
                      split at e
                      · rename_i hee
                        subst hsz hee
                        unfold appO at e
                        split at e
                        · split at e
                          · rename_i hl
                            cases e
                            exact opv_append_own hT (σ := ⟨tm, h, n, df⟩) hop ht hd he ht2 hn2 hx hz hH (Nat.eq_of_beq_eq_true hl) hsr hsc' h1 h2 h3
                          · cases e
                        · split at e
                          · rename_i hr
                            split at e
                            · rename_i hl
                              cases e
                              exact opv_app_room hT hop ht hd he ht2 hn2 hx hz hsr hH hk0 (Nat.le_of_ble_eq_true hr) (Nat.le_of_ble_eq_true hl) hsc'
                            · cases e
                          · rename_i hr
                            split at e
                            · rename_i hl
                              cases e
                              exact opv_app_grow hT hop ht hd he ht2 hn2 hx hz hsr hH (Nat.lt_of_not_le fun hh => hr (Nat.ble_eq_true_of_le hh)) (Nat.le_of_ble_eq_true hl) h1 h2 h3
                            · cases e
                      · cases e
                    · cases e
                  · cases e
                · cases e
              · cases e
            · cases e
        · cases e
      · cases e
    · cases e
  · cases e
end
end Go.Lg

/- One operation, run: that the machine does so. -/
set_option linter.unusedSimpArgs false
set_option linter.unusedSectionVars false
namespace Go.Lg
open Go
variable [GO]
set_option linter.unusedVariables false
section
variable {P : Program} {T : TT} (hT : TOK P T) {eq : TypeId → Bool} (heq : EqOK P eq) {N : Nat} {o : Oper} {tm : Nat → AV} {h : Heap} {n : Nat} {df : List Nat}
include hT in
theorem litA_sound {t : TypeId} {len : Nat} {parts : Array (Nat × Operand)} {ps : List (Nat × AV)} {r : AV × HC} (hop : o.op = .buildSlice t len parts) (hp : evp tm parts.toList = some ps) (e : litA T n t len ps = some r) :
    OpV P N o ⟨tm, h, n, df⟩ r.1 (r.2.h h n) (r.2.n n) := by
  unfold litA at e
  split at e
  · rename_i el ei hel
    obtain ⟨ti, ht, hd, he⟩ := elemOf_sound hel
    split at e
    · rename_i h1
      split at e
      · rename_i h2
        split at e
        · rename_i h3
          split at e
          · rename_i ys hy
            split at e
            · rename_i h4
              cases e
              exact opv_buildSlice hT (σ := ⟨tm, h, n, df⟩) hop ht hd he (Nat.le_of_ble_eq_true h1) (Nat.le_of_ble_eq_true h2) (Nat.eq_of_beq_eq_true h3) hp hy (Nat.eq_of_beq_eq_true h4)
            · cases e
          · cases e
        · cases e
      · cases e
    · cases e
  · cases e
include hT in
theorem storeA_sound {t : TypeId} {a v : Operand} {x y : AV} {r : AV × HC} (hop : o.op = .store t a v) (ha : evo tm a = some x) (hv : evo tm v = some y) (e : storeA T h t x y = some r) :
    OpV P N o ⟨tm, h, n, df⟩ r.1 (r.2.h h n) (r.2.n n) := by
  unfold storeA at e
  split at e
  · rename_i i ht
    split at e
    · split at e
      · rename_i cs el hH
        split at e
        · rename_i h1
          split at e
          · rename_i h2
            split at e
            · rename_i h3
              cases e
              exact opv_store hT (σ := ⟨tm, h, n, df⟩) hop ha hv hH ht (Nat.eq_of_beq_eq_true h1) (Nat.le_of_ble_eq_true h2) (fun c hc => List.all_eq_true.1 h3 c hc)
            · cases e
          · cases e
        · cases e
      · cases e
    · cases e
  · cases e
include hT in
theorem sliceA_sound {t : TypeId} {x : Operand} {lo hi mx : Option Operand} {a y : AV} {l h' m : Option Nat} (hop : o.op = .slice t x lo hi mx) (hx : evo tm x = some a) (hl : natO tm lo = some l) (hh : natO tm hi = some h') (hm : natO tm mx = some m)
    (e : sliceA T t a l h' m = some y) : OpV P N o ⟨tm, h, n, df⟩ y h n := by
  unfold sliceA at e
  split at e
  · rename_i el ei hel
    obtain ⟨ti, ht, hd, he⟩ := elemOf_sound hel
    split at e
    · split at e
      · split at e
        · rename_i h1
          split at e
          · rename_i h2
            split at e
            · rename_i h3
              cases e
              have hmx : mx = none := by
                cases mx with
                | none => rfl
                | some x => simp only [natO] at hm; split at hm <;> (try split at hm) <;> simp at hm
              subst hmx
              exact opv_slice_view hT (σ := ⟨tm, h, n, df⟩) hop hx (natO_isNat hl) (natO_isNat hh) ht hd he h1 h2 (fun r hr => by have := List.all_eq_true.1 h3 r hr; simpa using this)
            · cases e
          · cases e
        · cases e
      · cases e
    · split at e
      · rename_i h1
        split at e
        · rename_i h2
          split at e
          · rename_i h3
            split at e
            · cases e
              exact opv_slice_own hT (σ := ⟨tm, h, n, df⟩) (m := none) hop hx (natO_isNat hl) (natO_isNat hh) (natO_isNat hm) ht hd he h1 h2 (fun m' hm' => by cases hm') h3
            · split at e
              · rename_i h4
                split at e
                · rename_i h5
                  split at e
                  · rename_i h6
                    cases e
                    exact opv_slice_own hT (σ := ⟨tm, h, n, df⟩) (m := some _) hop hx (natO_isNat hl) (natO_isNat hh) (natO_isNat hm) ht hd he h1 h2 (fun m' hm' => by cases hm'; exact ⟨h4, h5, h6⟩) h3
                  · cases e
                · cases e
              · cases e
          · cases e
        · cases e
      · cases e
    · cases e
  · cases e
include hT heq in
theorem binA_sound {op : BinOp} {t yt : TypeId} {x y : Operand} {a b r : AV} (hop : o.op = .binOp op t x y yt) (hx : evo tm x = some a) (hy : evo tm y = some b) (e : binA eq T op t a b = some r) : OpV P N o ⟨tm, h, n, df⟩ r h n := by
  unfold binA at e
  split at e
  · split at e
    · rename_i he
      obtain ⟨h1, h2⟩ := (heq _ he).1
      split at e
      · rename_i i ht
        split at e
        · rename_i fs hd
          split at e
          · split at e
            · rename_i r' hr
              cases e
              exact (pure_eql hT ht hd h1 h2 hx hy hr).2 N o tm h n df hop (fun _ _ => rfl)
            · cases e
          · split at e
            · rename_i r' hr
              cases e
              exact (pure_neq hT ht hd h1 h2 hx hy hr).2 N o tm h n df hop (fun _ _ => rfl)
            · cases e
          · cases e
        · cases e
      · cases e
    · cases e
  · exact pv_sound hT (σ := ⟨tm, h, n, df⟩) (by rw [hop]; simp only [pv, hx, hy, Option.bind_some]; exact e)
omit hT heq in
theorem nilI_run (hT : TOK P T) {t : TypeId} {i : TI} {ms : Array (String × TypeId)} (ht : T t = some i) (hd : i.desc = .interface ms) (w : World) : (∀ d, (Op.equalIn (d + 1) t .nilIface .nilIface).run P w = .ok true w) := by
  intro d
  have hu := r_und hT ht w
  rw [hd] at hu
  unfold Op.equalIn
  rw [run_bindv hu]
  rfl
include hT in
theorem nilA_sound {op : BinOp} {t yt : TypeId} {x : Operand} {c : Value} {a r : AV} (hop : o.op = .binOp op t x (.const c) yt) (hx : evo tm x = some a) (e : nilA T op t a c = some r) : OpV P N o ⟨tm, h, n, df⟩ r h n := by
  unfold nilA at e
  split at e
  · rename_i ti ht
    split at e
    · rename_i b hb
      split at e
      · cases e; exact (p_nil hT ht hx hb).2 N o tm h n df hop (fun _ _ => rfl)
      · cases e; exact (p_nnil hT ht hx hb).2 N o tm h n df hop (fun _ _ => rfl)
      · cases e
    · split at e
      · rename_i ms hd
        split at e
        · split at e
          · have key : ∀ K ac, SR K N (⟨tm, h, n, df⟩ : St) ac → ∀ v, (binOp op t .nilIface .nilIface).run P K.w = .ok v K.w → VR K r v → ∃ v, (execOp ac.eval o).run P K.w = .ok (.value v) K.w ∧ VR K r v := by
              intro K ac hs v hr hv
              have hvx := evo_sound hs.tr hx
              generalize hh : ac.eval x = u at hvx
              cases hvx
              refine ⟨v, ?_, hv⟩
              unfold execOp; rw [hop]
              refine run_v ?_
              have hg : (eqGuard op t x (.const .nilIface) .nilIface .nilIface).run P K.w = .ok () K.w := by
                unfold eqGuard
                cases op <;> simp [Sem.run_pure]
              have hc : ac.eval (.const .nilIface) = .nilIface := rfl
              rw [hh, hc, run_bindv hg]
              exact hr
            split at e
            · cases e
              exact opv_of fun K ac hs => key K ac hs (.bool true) (run_eqbin (nilI_run hT ht hd K.w) rfl) (.bool _)
            · cases e
              exact opv_of fun K ac hs => key K ac hs (.bool false) (run_nebin (b := true) (nilI_run hT ht hd K.w) rfl) (.bool _)
            · cases e
          · cases e
        · cases e
      · cases e
  · cases e
include hT in
theorem pvz_sound {x : AV} (e : pvz T tm h o.op = some x) : (∀ c, o.op ≠ .defer c) ∧ OpV P N o ⟨tm, h, n, df⟩ x h n := by
  rcases pvz_cases e with e | e
  · exact ⟨fun c hc => by rw [hc] at e; simp [pv] at e, pv_sound hT (σ := ⟨tm, h, n, df⟩) e⟩
  · exact ⟨fun c hc => by rw [hc] at e; simp [pvx] at e, pvx_sound hT (σ := ⟨tm, h, n, df⟩) e⟩
omit hT heq in
theorem isConst_sound {y : Operand} {c : Value} (h : isConst y = some c) : y = .const c := by
  unfold isConst at h
  split at h
  · cases h; rfl
  · cases h
include hT in
theorem mkSlA_sound {t : TypeId} {x y : Operand} {k1 k2 : IntKind} {l c : Int} {r : AV × HC} (hop : o.op = .makeSlice t x y) (hx : evo tm x = some (.int k1 l)) (hy : evo tm y = some (.int k2 c)) (e : mkSlA T n t l c = some r) : OpV P N o ⟨tm, h, n, df⟩ r.1 (r.2.h h n) (r.2.n n) := by
  unfold mkSlA at e
  split at e
  · rename_i el ei hel
    obtain ⟨ti, ht, hd, he⟩ := elemOf_sound hel
    split at e
    · rename_i h1
      split at e
      · rename_i h2
        split at e
        · rename_i h3
          split at e
          · rename_i h4
            cases e
            have e1 : ((l.toNat : Nat) : Int) = l := Int.toNat_of_nonneg h1
            have e2 : ((c.toNat : Nat) : Int) = c := Int.toNat_of_nonneg (Int.le_trans h1 h2)
            exact opv_makeSlice hT (σ := ⟨tm, h, n, df⟩) hop (by rw [e1]; exact hx) (by rw [e2]; exact hy) ht hd he (by omega) (Nat.le_of_ble_eq_true h3) (Nat.le_of_ble_eq_true h4)
          · cases e
        · cases e
      · cases e
    · cases e
  · cases e
omit hT heq in
theorem mapOf_sound {t : TypeId} {z : AV} (e : mapOf T t = some z) : ∃ ti kt et ki kd ei, T t = some ti ∧ ti.desc = .map kt et ∧ T kt = some ki ∧ ki.desc = .int kd ∧ T et = some ei ∧ zeroA ei = some z := by
  unfold mapOf at e
  split at e
  · rename_i ti ht
    split at e
    · rename_i kt et hd
      split at e
      · rename_i ki hk
        split at e
        · rename_i kd hkd
          split at e
          · rename_i ei he
            exact ⟨ti, kt, et, ki, kd, ei, ht, hd, hk, hkd, he, e⟩
          · cases e
        · cases e
      · cases e
    · cases e
  · cases e
include hT in
theorem lookA_sound {t : TypeId} {x ix : Operand} {ok : Bool} {a b r : AV} (hop : o.op = .lookup t x ix ok) (hx : evo tm x = some a) (hy : evo tm ix = some b) (e : lookA T h t a b ok = some r) : OpV P N o ⟨tm, h, n, df⟩ r h n := by
  unfold lookA at e
  split at e
  · split at e
    · rename_i es hH
      split at e
      · rename_i z hz
        obtain ⟨ti, kt, et, ki, kd, ei, ht, hd, hk, hkd, he, hz'⟩ := mapOf_sound hz
        split at e
        · rename_i r' hr
          cases e
          exact opv_lookup hT (σ := ⟨tm, h, n, df⟩) hop hx hy hH ht hd hk hkd he hz' hr
        · cases e
      · cases e
    · cases e
  · cases e
include hT in
theorem updA_sound {t : TypeId} {x ix y : Operand} {a b c : AV} {r : AV × HC} (hop : o.op = .mapUpdate t x ix y ∨ o.op = .insert t x ix y) (hx : evo tm x = some a) (hi : evo tm ix = some b) (hy : evo tm y = some c) (e : updA T h t a b c = some r) : OpV P N o ⟨tm, h, n, df⟩ r.1 (r.2.h h n) (r.2.n n) := by
  unfold updA at e
  split at e
  · split at e
    · rename_i es hH
      split at e
      · rename_i z hz
        obtain ⟨ti, kt, et, ki, kd, ei, ht, hd, hk, hkd, he, hz'⟩ := mapOf_sound hz
        split at e
        · rename_i r' hr
          cases e
          exact opv_mapUpdate hT (σ := ⟨tm, h, n, df⟩) hop hx hi hy hH ht hd hk hkd hr
        · cases e
      · cases e
    · cases e
  · cases e
include hT in
theorem bytA_sound {s d : TypeId} {x : Operand} {a r : AV} (hop : o.op = .convert s d x) (hx : evo tm x = some a) (e : bytA T h s d a = some r) : OpV P N o ⟨tm, h, n, df⟩ r h n := by
  unfold bytA at e
  split at e
  · rename_i el ei hel
    obtain ⟨ti, ht, hd, he⟩ := elemOf_sound hel
    split at e
    · rename_i hei
      split at e
      · rename_i di hdi
        split at e
        · rename_i hds
          split at e
          · rename_i hns
            split at e
            · rename_i k news hsrc
              split at e
              · rename_i bs hb
                cases e
                have hsr := srcA_sound hsrc
                rw [bytesOf_sound hb] at hsr
                exact opv_bytes hT (σ := ⟨tm, h, n, df⟩) hop ht hd he hei hdi hds hx (fun s hs => by rw [hs] at hns; cases hns) hsr
              · cases e
            · cases e
          · cases e
        · cases e
      · cases e
    · cases e
  · cases e
theorem keyA_sound {kt : TypeId} {x : AV} {q : KN} (e : keyA T kt x = some q) : nK x = some q ∧ q.1 = true ∧ ∃ ki fs, T kt = some ki ∧ ki.desc = .struct fs ∧ keyShape T 4 kt q.2 = true := by
  unfold keyA at e
  split at e
  · rename_i ki hk
    split at e
    · rename_i fs hd
      split at e
      · rename_i b l hn
        split at e
        · split at e
          · rename_i hs
            cases e
            exact ⟨hn, rfl, ki, fs, hk, hd, hs⟩
          · cases e
        · cases e
      · cases e
    · cases e
  · cases e
theorem mapK_sound {t kt et : TypeId} {x ix : AV} {id : Nat} {es : List (AV × AV)} {r : Option (Nat × AV)} (e : mapK eq T h t x ix = some (id, kt, et, es, r)) :
    x = .map id ∧ h id = some (.map es) ∧ (∃ ti, T t = some ti ∧ ti.desc = .map kt et) ∧ eq (keyBase + kt) = true ∧ keysA T kt es = true ∧ ∃ q, keyA T kt ix = some q ∧ findU q es = some r := by
  unfold mapK at e
  split at e
  · split at e
    · rename_i es' hH
      split at e
      · rename_i ti ht
        split at e
        · rename_i kt' et' hd
          split at e
          · rename_i he
            split at e
            · rename_i q hq
              split at e
              · rename_i hks
                split at e
                · rename_i r' hf
                  cases e
                  exact ⟨rfl, hH, ⟨ti, ht, hd⟩, he, hks, q, hq, hf⟩
                · cases e
              · cases e
            · cases e
          · cases e
        · cases e
      · cases e
    · cases e
  · cases e
include hT heq in
theorem keys_told {kt : TypeId} {es : List (AV × AV)} (hk : keysA T kt es = true) (he : eq (keyBase + kt) = true) : ∀ p, p ∈ es → ∀ q', nK p.1 = some q' → ∃ l', keyOf P kt (toV q') = some l' := by
  intro p hp q' hq'
  have := List.all_eq_true.1 hk p hp
  cases hka : keyA T kt p.1 with
  | none => rw [hka] at this; cases this
  | some q2 =>
    obtain ⟨h1, h2, ki, fs, h3, h4, h5⟩ := keyA_sound hka
    rw [hq'] at h1
    cases h1
    obtain ⟨b, l⟩ := q'
    simp only at h2
    subst h2
    exact keyOf_shape hT ((heq _ he).2 kt rfl) h3 h4 h5
include hT heq in
theorem lookK2_sound {t : TypeId} {x ix : Operand} {ok : Bool} {a b r : AV} (hop : o.op = .lookup t x ix ok) (hx : evo tm x = some a) (hy : evo tm ix = some b) (e : lookK2 eq T h t a b ok = some r) : OpV P N o ⟨tm, h, n, df⟩ r h n := by
  unfold lookK2 at e
  split at e
  · rename_i id kt et es r' hm
    obtain ⟨rfl, hH, ⟨ti, ht, hd⟩, he, hks, q, hq, hf⟩ := mapK_sound hm
    obtain ⟨h1, h2, ki, fs, h3, h4, h5⟩ := keyA_sound hq
    split at e
    · rename_i ei hei
      split at e
      · rename_i z hz
        cases e
        obtain ⟨b', l⟩ := q
        simp only at h2
        subst h2
        obtain ⟨lit, hlit⟩ := keyOf_shape hT ((heq _ he).2 kt rfl) h3 h4 h5
        exact opv_lookupK hT (σ := ⟨tm, h, n, df⟩) ((heq _ he).2 kt rfl).law hop hx hy hH ht hd hei hz h1 rfl hlit (keys_told hT heq hks he) hf
      · cases e
    · cases e
  · cases e
include hT heq in
theorem updK2_sound {t : TypeId} {x ix y : Operand} {a b c : AV} {r : AV × HC} (hop : o.op = .mapUpdate t x ix y ∨ o.op = .insert t x ix y) (hx : evo tm x = some a) (hi : evo tm ix = some b) (hy : evo tm y = some c) (e : updK2 eq T h t a b c = some r) : OpV P N o ⟨tm, h, n, df⟩ r.1 (r.2.h h n) (r.2.n n) := by
  unfold updK2 at e
  split at e
  · rename_i id kt et es r' hm
    cases e
    obtain ⟨rfl, hH, ⟨ti, ht, hd⟩, he, hks, q, hq, hf⟩ := mapK_sound hm
    obtain ⟨h1, h2, ki, fs, h3, h4, h5⟩ := keyA_sound hq
    obtain ⟨b', l⟩ := q
    simp only at h2
    subst h2
    obtain ⟨lit, hlit⟩ := keyOf_shape hT ((heq _ he).2 kt rfl) h3 h4 h5
    exact opv_mapUpdateK hT (σ := ⟨tm, h, n, df⟩) ((heq _ he).2 kt rfl).law hop hx hi hy hH ht hd h1 rfl hlit (keys_told hT heq hks he) hf
  · cases e
include hT in
theorem strA_sound {s d : TypeId} {x : Operand} {a : AV} {r : AV × HC} (hop : o.op = .convert s d x) (hx : evo tm x = some a) (e : strA T n s d a = some r) : OpV P N o ⟨tm, h, n, df⟩ r.1 (r.2.h h n) (r.2.n n) := by
  unfold strA at e
  split at e
  · split at e
    · rename_i si hs
      split at e
      · rename_i hsd
        split at e
        · rename_i et ei he
          obtain ⟨ti, h1, h2, h3⟩ := elemOf_sound he
          split at e
          · rename_i hed
            cases e
            exact opv_strBytes hT (σ := ⟨tm, h, n, df⟩) hop hx hs hsd h1 h2 h3 hed
          · cases e
        · cases e
      · cases e
    · cases e
  · cases e
include hT heq in
theorem eop_opv {op : Op} {r : AV × HC} (e : eop eq T tm h n op = some r) : (∀ c, op ≠ .defer c) ∧ ∀ (o : Oper) (df : List Nat), o.op = op → OpV P N o ⟨tm, h, n, df⟩ r.1 (r.2.h h n) (r.2.n n) := by
  unfold eop at e
  split at e
  · split at e
    · rename_i i ht
      cases e
      exact ⟨fun c hc => (by cases hc), fun o df hop => opv_alloc hT (σ := ⟨tm, h, n, df⟩) hop ht⟩
    · cases e
  · split at e
    · rename_i y hy
      split at e
      · rename_i hk
        cases e
        exact ⟨fun c hc => (by cases hc), fun o df hop => opv_box (σ := ⟨tm, h, n, df⟩) hop hy hk⟩
      · cases e
    · cases e
  · split at e
    · rename_i x y hx hy
      exact ⟨fun c hc => (by cases hc), fun o df hop => storeA_sound hT hop hx hy e⟩
    · cases e
  · split at e
    · rename_i hp
      split at e
      · rename_i hl
        split at e
        · rename_i p hel
          cases e
          obtain ⟨el, ei⟩ := p
          obtain ⟨ti, ht, hd, he⟩ := elemOf_sound hel
          refine ⟨fun c hc => (by cases hc), fun o df hop => ?_⟩
          have := Nat.eq_of_beq_eq_true hl
          subst this
          have hpp : ∀ {parts : Array (Nat × Operand)}, parts.toList = [] → parts = #[] := fun {parts} hp => by cases parts; simp at hp; rw [hp]
          rw [hpp hp] at hop
          exact (p_bs0 (tm := tm) hT ht hd he).2 N o tm h n df hop (fun _ _ => rfl)
        · cases e
      · refine ⟨fun c hc => (by cases hc), fun o df hop => litA_sound hT hop (by rw [hp]; rfl) e⟩
    · rename_i p ps hp
      split at e
      · rename_i ps' hps
        refine ⟨fun c hc => (by cases hc), fun o df hop => litA_sound hT hop (by rw [hp]; exact hps) e⟩
      · cases e
  · split at e
    · rename_i x l h' m h1 h2 h3 h4
      obtain ⟨e1, e2⟩ := sameH_sound e
      refine ⟨fun c hc => (by cases hc), fun o df hop => ?_⟩
      rw [e2]
      exact sliceA_sound hT hop h1 h2 h3 h4 e1
    · cases e
  · split at e
    · rename_i x z hx hz
      exact ⟨fun c hc => (by cases hc), fun o df hop => appA_sound hT hop hx hz e⟩
    · cases e
  · split at e
    · rename_i a b hx hy
      split at e
      · rename_i r' hr
        cases e
        exact ⟨fun c hc => (by cases hc), fun o df hop => binA_sound hT heq hop hx hy hr⟩
      · split at e
        · rename_i c hc
          obtain ⟨e1, e2⟩ := sameH_sound e
          refine ⟨fun c hc => (by cases hc), fun o df hop => ?_⟩
          rw [e2]
          rw [isConst_sound hc] at hop
          exact nilA_sound hT hop hx e1
        · cases e
    · cases e
  · split at e
    · cases e
      exact ⟨fun c hc => (by cases hc), fun o df hop => opv_makeMap (σ := ⟨tm, h, n, df⟩) hop⟩
    · cases e
  · split at e
    · rename_i hx hy
      exact ⟨fun c hc => (by cases hc), fun o df hop => mkSlA_sound hT hop hx hy e⟩
    · cases e
  · split at e
    · rename_i hx hy
      split at e
      · rename_i r' e1
        cases e
        exact ⟨fun c hc => (by cases hc), fun o df hop => lookA_sound hT hop hx hy e1⟩
      · obtain ⟨e1, e2⟩ := sameH_sound e
        refine ⟨fun c hc => (by cases hc), fun o df hop => ?_⟩
        rw [e2]
        exact lookK2_sound hT heq hop hx hy e1
    · cases e
  · split at e
    · rename_i h1 h2 h3
      split at e
      · rename_i r' e1
        cases e
        exact ⟨fun c hc => (by cases hc), fun o df hop => updA_sound hT (.inl hop) h1 h2 h3 e1⟩
      · exact ⟨fun c hc => (by cases hc), fun o df hop => updK2_sound hT heq (.inl hop) h1 h2 h3 e⟩
    · cases e
  · split at e
    · rename_i h1 h2 h3
      split at e
      · rename_i r' e1
        cases e
        exact ⟨fun c hc => (by cases hc), fun o df hop => updA_sound hT (.inr hop) h1 h2 h3 e1⟩
      · exact ⟨fun c hc => (by cases hc), fun o df hop => updK2_sound hT heq (.inr hop) h1 h2 h3 e⟩
    · cases e
  · split at e
    · rename_i a hx
      split at e
      · rename_i y hy
        cases e
        exact ⟨fun c hc => (by cases hc), fun o df hop => pv_sound hT (σ := ⟨tm, h, n, df⟩) (by rw [hop]; simp only [pv, hx, Option.bind_some]; exact hy)⟩
      · split at e
        · rename_i r' e1
          cases e
          exact ⟨fun c hc => (by cases hc), fun o df hop => bytA_sound hT hop hx e1⟩
        · exact ⟨fun c hc => (by cases hc), fun o df hop => strA_sound hT hop hx e⟩
    · cases e
  · split at e
    · rename_i a hx
      obtain ⟨e1, e2⟩ := sameH_sound e
      refine ⟨fun c hc => (by cases hc), fun o df hop => ?_⟩
      rw [e2]
      exact opv_typeAssert hT (σ := ⟨tm, h, n, df⟩) hop hx e1
    · cases e
  · split at e
    · rename_i k a k' b hx hy
      split at e
      · rename_i hk
        cases e
        subst hk
        exact ⟨fun c hc => (by cases hc), fun o df hop => (pure_max hx hy).2 N o tm h n df hop (fun _ _ => rfl)⟩
      · cases e
    · cases e
  · obtain ⟨e1, e2⟩ := sameH_sound e
    refine ⟨fun c hc => ?_, fun o df hop => ?_⟩
    · rw [hc] at e1; simp [pvz, pv, pvx] at e1
    · rw [e2]
      exact (pvz_sound hT (o := o) (by rw [hop]; exact e1)).2
end
theorem eop_congr {eq : TypeId → Bool} {T : TT} {tm tm' : Nat → AV} {h : Heap} {n : Nat} {op : Op} (ht : ∀ t, Operand.tmp t ∈ op.operands.toList → tm' t = tm t) : eop eq T tm' h n op = eop eq T tm h n op := by
  have hz : pvz T tm' h op = pvz T tm h op := by simp only [pvz, pv_congr ht, pvx_congr ht]
  unfold eop
  split
  · rfl
  · rename_i t x
    rw [evo_congr (x := x) fun t e => ht t (by simp [Op.operands, e])]
  · rename_i t a v
    rw [evo_congr (x := a) fun t e => ht t (by simp [Op.operands, e]), evo_congr (x := v) fun t e => ht t (by simp [Op.operands, e])]
  · rename_i t len parts
    split
    · rfl
    · rename_i p ps hp
      rw [evp_congr (l := p :: ps) fun t e => ht t (by simp only [Op.operands, hp]; exact e)]
  · rename_i t x lo hi mx
    rw [evo_congr (x := x) fun t e => ht t (by simp [Op.operands, e]), natO_congr (x := lo) fun t e => ht t (by subst e; simp [Op.operands]), natO_congr (x := hi) fun t e => ht t (by subst e; simp [Op.operands]), natO_congr (x := mx) fun t e => ht t (by subst e; simp [Op.operands])]
  · rename_i x z t t2
    rw [evo_congr (x := x) fun t e => ht t (by simp [Op.operands, Call.operands, e]), evo_congr (x := z) fun t e => ht t (by simp [Op.operands, Call.operands, e])]
  · rename_i op t x y yt
    rw [evo_congr (x := x) fun t e => ht t (by simp [Op.operands, e]), evo_congr (x := y) fun t e => ht t (by simp [Op.operands, e])]
  · rfl
  · rename_i t x y
    rw [evo_congr (x := x) fun t e => ht t (by simp [Op.operands, e]), evo_congr (x := y) fun t e => ht t (by simp [Op.operands, e])]
  · rename_i t x ix ok
    rw [evo_congr (x := x) fun t e => ht t (by simp [Op.operands, e]), evo_congr (x := ix) fun t e => ht t (by simp [Op.operands, e])]
  · rename_i t x ix y
    rw [evo_congr (x := x) fun t e => ht t (by simp [Op.operands, e]), evo_congr (x := ix) fun t e => ht t (by simp [Op.operands, e]), evo_congr (x := y) fun t e => ht t (by simp [Op.operands, e])]
  · rename_i t x ix y
    rw [evo_congr (x := x) fun t e => ht t (by simp [Op.operands, e]), evo_congr (x := ix) fun t e => ht t (by simp [Op.operands, e]), evo_congr (x := y) fun t e => ht t (by simp [Op.operands, e])]
  · rename_i s d x
    rw [evo_congr (x := x) fun t e => ht t (by simp [Op.operands, e])]
  · rename_i x xt t ok
    rw [evo_congr (x := x) fun t e => ht t (by simp [Op.operands, e])]
  · rename_i x y ats
    rw [evo_congr (x := x) fun t e => ht t (by simp [Op.operands, Call.operands, e]), evo_congr (x := y) fun t e => ht t (by simp [Op.operands, Call.operands, e])]
  · rw [hz]
theorem eop_chg {P : Program} {T : TT} (hT : TOK P T) {eq : TypeId → Bool} (heq : EqOK P eq) {N : Nat} {tm : Nat → AV} {h : Heap} {n : Nat} {op : Op} {r : AV × HC}
    (e : eop eq T tm h n op = some r) : Chg P N tm op h n r.1 (r.2.h h n) (r.2.n n) :=
  ⟨(eop_opv (P := P) (N := N) hT heq e).1, fun o tm' df hop hr => (eop_opv (N := N) hT heq ((eop_congr hr).trans e)).2 o df hop⟩
end Go.Lg

/- Evaluator: functions that end by marks or by a panic; rounds; a panic's rule. -/
set_option linter.unusedVariables false
set_option linter.unusedSimpArgs false
set_option linter.unusedSectionVars false
namespace Go.Lg
open Go
variable [GO]
/-- A function's end. -/
def DoneX (P : Program) (fn : Func) (Q : AR → Heap → Nat → Prop) : AEx → St → Prop
  | .normal, σ | .ret, σ => Marks σ.h σ.df ∧ ∃ x, ResV P fn.ntmps fn ⟨σ.tm, killAll σ.h σ.df, σ.n, []⟩ x ∧ Q (.ret x) (killAll σ.h σ.df) σ.n
  | .panic x, σ => Marks σ.h σ.df ∧ Q (.panic x) (killAll σ.h σ.df) σ.n
  | _, _ => False
theorem ac_of_wdp {P : Program} {f : FuncId} {fn : Func} {c : Code} {args : List AV} {H : Heap} {n : Nat} {Q : AR → Heap → Nat → Prop}
    (hf : P.funcs[f]? = some fn) (hb : fn.body = some c) (hN : args.length ≤ fn.ntmps) (h : W P Plain fn.ntmps n c (DoneX P fn Q) ⟨args0 args, H, n, []⟩) : AC P f args H n Q := by
  intro K vs hn hrel hvs cs
  obtain ⟨a, had, henter, htr⟩ := enter_ok hf hb hN hvs
  have hs : SR K fn.ntmps ⟨args0 args, H, n, []⟩ a := ⟨hn, hrel, htr, had⟩
  obtain ⟨e, a', w', ⟨K', σ', e', hw, hs', hst, he, hq⟩, harr⟩ := h K a (Nat.le_of_eq hn.symm) hs ⟨f, .normal, none, []⟩ rfl [] cs
  have hst : Step K H K' σ'.h := (hn ▸ hst : StM K.next K H K' σ'.h).step
  subst hw
  rw [← henter] at harr
  have key : ∀ k1, Marks σ'.h σ'.df → (∃ x, ResV P fn.ntmps fn ⟨σ'.tm, killAll σ'.h σ'.df, σ'.n, []⟩ x ∧ Q (.ret x) (killAll σ'.h σ'.df) σ'.n) → Steps P (lone (Frame.enter P f vs .normal) cs K.w) (lone { (⟨f, .normal, none, []⟩ : Fb).fr a' k1 with mode := .returning } cs K'.w) →
      ∃ e w' fr, (∃ K' H' r, K'.w = w' ∧ Rel K' H' ∧ Step K H K' H' ∧ RR K' r e ∧ Q r H' K'.next) ∧ Comes P (lone (Frame.enter P f vs .normal) cs K.w) (lone fr cs w') e ∧ fr.fn = f ∧ fr.leaving P w' e := by
    intro k1 hmk ⟨x, hx, hQ⟩ hsteps
    obtain ⟨w2, h1, h2, h3⟩ := unwinds (P := P) (cs := cs) [] σ'.df K' σ'.h { (⟨f, .normal, none, []⟩ : Fb).fr a' k1 with mode := .returning } a'.defers (fun h => by cases h) hs'.rel rfl hs'.dr hmk
    have hE := h3.ext hs'.rel
    have hs2 : SR (K'.at_ w2) fn.ntmps ⟨σ'.tm, killAll σ'.h σ'.df, σ'.n, []⟩ { a' with defers := [] } := ⟨hs'.next, h2, hs'.tr.mono hE, rfl⟩
    obtain ⟨v, hr, hv⟩ := hx _ _ hs2
    exact ⟨.returned v, w2, _, ⟨K'.at_ w2, _, .ret x, rfl, h2, hst.trans h3, .ret hv, by have : (K'.at_ w2).next = σ'.n := hs'.next; rw [this]; exact hQ⟩, Steps.trans hsteps h1, rfl, rfl, rfl, rfl, fn, hf, hr⟩
  cases he with
  | normal => exact key [] hq.1 hq.2 (Steps.trans harr (.one (st_end rfl)))
  | ret => obtain ⟨k1, harr⟩ := harr; exact key _ hq.1 hq.2 (Steps.trans harr (.one (st_ret rfl)))
  | @panic x v hv =>
    obtain ⟨todo, _, hst2⟩ := harr
    obtain ⟨w2, h1, h2, h3⟩ := unwinds (P := P) (cs := cs) [] σ'.df K' σ'.h { (⟨f, .normal, none, []⟩ : Fb).fr a' todo with mode := .panicking [{ v, recovered := false }] } a'.defers (fun h => by cases h) hs'.rel rfl hs'.dr hq.1
    have hE := h3.ext hs'.rel
    exact ⟨.panicked _, w2, _, ⟨K'.at_ w2, _, .panic x, rfl, h2, hst.trans h3, .panic (hv.mono hE), by have : (K'.at_ w2).next = σ'.n := hs'.next; rw [this]; exact hq.2⟩, Steps.trans hst2 h1, rfl, rfl, rfl, fn, hf⟩
  | exit i => exact hq.elim
  | goto i => exact hq.elim
/-- How a round ends, whatever the loop's block is by then. -/
def RQX (id : Nat) (R : AR → Heap → Nat → Prop) (e : AEx) (σ : St) : Prop :=
  σ.df = [] ∧ match e with
    | .panic x => R (.panic x) σ.h σ.n
    | e => ∃ lb, σ.h id = some (.loop lb) ∧ match e with
      | .normal => R (.ret (.bool true)) (upd σ.h id (some (.loop (lb.st .ready none)))) σ.n
      | .ret => R (.ret (.bool false)) (upd σ.h id (some (.loop (lb.st .done (some .ret))))) σ.n
      | .exit i => R (.ret (.bool false)) (upd σ.h id (some (.loop (lb.st .done (some (.exit i)))))) σ.n
      | _ => False
/-- What a call of a loop's yield comes to; a panic in its round is one of its ends. -/
def YX (P : Program) (id : Nat) (args : List AV) (H : Heap) (n : Nat) (R : AR → Heap → Nat → Prop) : Prop :=
  ∀ K vs, K.next = n → Rel K H → VRs K args vs.toList → ∃ f tmps as bd, (Instr.yield (K.base id) vs).run P K.w = .ok (.round (K.base id) f tmps as bd) K.w ∧
    ∀ c cs, ∃ r K' H', Rel K' H' ∧ Step K H K' H' ∧ R r H' K'.next ∧ match r with
      | .ret x => ∃ b, x = .bool b ∧ Steps P (lone (Frame.round (K.base id) f tmps as bd .normal) (c :: cs) K.w) (lone (c.finish (.bool b)) cs K'.w)
      | .panic x => ∃ v, VR K' x v ∧ Steps P (lone (Frame.round (K.base id) f tmps as bd .normal) (c :: cs) K.w) (lone (c.raise [{ v, recovered := false }]) cs K'.w)
theorem st_panicked {P : Program} {b : Fb} {a : Act} {todo : List Item} {c : Frame} {cs : List Frame} {w : World} {v : Value} (hn : noCall todo = true) (hd : a.defers ++ b.dt = []) :
    step P (lone { b.fr a todo with mode := .panicking [{ v, recovered := false }] } (c :: cs) w) = .next (lone (c.raise [{ v, recovered := false }]) cs w) := by
  have hc : ∀ fr : Frame, fr.todo = todo → Frame.catches P fr = false := fun fr h => by
    unfold Frame.catches
    split
    · rename_i h2; rw [h] at h2; rw [h2] at hn; cases hn
    · rfl
  refine step_lone_go ?_
  simp only [stepG, unwind]
  have hd' : (b.fr a todo).defers = [] := hd
  simp only [hd']
  rw [hc _ rfl]
  rfl
theorem yx_of_w {P : Program} {id : Nat} {args : List AV} {H : Heap} {n : Nat} {R : AR → Heap → Nat → Prop} {lb : LoopB} (hH : H id = some (.loop lb)) (hs : lb.state = .ready) (ha : args.length = lb.params.size) (hp : ∀ t, t ∈ lb.params.toList → t < lb.N)
    (h : W P Round lb.N n lb.assign (fun e σ => e = .normal ∧ σ.df = [] ∧ ∃ lb1, σ.h id = some (.loop lb1) ∧ lb1.state = .ready ∧ W P Round lb.N n lb.body (RQX id R) ⟨σ.tm, upd σ.h id (some (.loop (lb1.st .busy lb1.pending))), σ.n, []⟩) ⟨setPs lb.tm (lb.params.toList.zip args), H, n, []⟩) : YX P id args H n R := by
  intro K vs hn hr hvs
  subst hn
  obtain ⟨r, g1, g2, g3, g4, g5, g6, g7, _⟩ := loop_put hr hH
  have hvl : vs.size = r.params.size := by rw [g4, ← ha]; simpa using hvs.1
  refine ⟨r.fn, _, r.assign, r.body, run_yield g1 hvl, fun c cs => ?_⟩
  let b : Fb := ⟨r.fn, .normal, some (K.base id), []⟩
  let a : Act := ⟨(r.params.zip vs).foldl (fun tmps (x : Tmp × Value) => tmps.setIfInBounds x.1 x.2) r.tmps, []⟩
  have htr : TR K lb.N (setPs lb.tm (lb.params.toList.zip args)) a.tmps := by
    have hz : (r.params.zip vs).toList = lb.params.toList.zip vs.toList := by rw [← g4]; simp
    have := TR.setPs (lb.params.toList.zip args) (lb.params.toList.zip vs.toList) _ _ g7 (by
      rw [List.map_fst_zip (by simp [ha]), List.map_fst_zip (by rw [hvs.1, ha]; simp)]) (by
      rw [List.map_snd_zip (by rw [ha]; simp), List.map_snd_zip (by rw [hvs.1, ha]; simp)]; exact hvs) (fun p hp' => hp _ (List.of_mem_zip (a := p.1) (b := p.2) hp').1)
    show TR K lb.N _ ((r.params.zip vs).foldl _ r.tmps)
    rw [← Array.foldl_toList, hz]
    exact this
  have hsr : SR K lb.N ⟨setPs lb.tm (lb.params.toList.zip args), H, K.next, []⟩ a := ⟨rfl, hr, htr, rfl⟩
  obtain ⟨e, a1, w1, ⟨K1, σ1, e1, rfl, hs1, hst1, he1, rfl, hd1, lb1, hl1, hs1', hbody⟩, harr⟩ := h K a (Nat.le_refl _) hsr b ⟨rfl, _, rfl⟩ [.beginRound, .code r.body] (c :: cs)
  rw [g5] at *
  cases he1
  have hbase1 : K1.base id = K.base id := (hst1.mu id (hr.lt id (by rw [hH]; simp))).1
  obtain ⟨r1, k1, k2, k3, k4, k5, k6, k7, k8⟩ := loop_put hs1.rel hl1
  have hbegin : step P (lone (b.fr a1 [.beginRound, .code r.body]) (c :: cs) K1.w) = .next (lone (b.fr a1 [.code r.body]) (c :: cs) (K1.w.putObj (K1.base id) (.loop { r1 with state := .busy }))) := by
    have := st_beginRound (P := P) (b := b) (a := a1) (k := [.code r.body]) (cs := c :: cs) (w := K1.w) (l := K.base id) (r := r1) rfl (by rw [← hbase1]; exact k1) (k2.trans hs1')
    rw [hbase1]; exact this
  obtain ⟨q1, q2, q3⟩ := k8 .busy lb1.pending
  have hpend : ({ r1 with state := .busy, pending := lb1.pending } : Loop) = { r1 with state := .busy } := by rw [← k3]
  rw [hpend] at q1 q2 q3
  have hdef : a1.defers = [] := by have := hs1.dr; rw [hd1] at this; exact this
  have hsr2 : SR (K1.at_ (K1.w.putObj (K1.base id) (.loop { r1 with state := .busy }))) lb.N ⟨σ1.tm, upd σ1.h id (some (.loop (lb1.st .busy lb1.pending))), σ1.n, []⟩ a1 := ⟨hs1.next, q1, hs1.tr.mono q3, hdef⟩
  obtain ⟨e2, a2, w2, ⟨K2, σ2, e2', rfl, hs2, hst2, he2, hd2, hR⟩, harr2⟩ := hbody (K1.at_ (K1.w.putObj (K1.base id) (.loop { r1 with state := .busy }))) a1 hst1.next' hsr2 b ⟨rfl, _, rfl⟩ [] (c :: cs)
  have hK12 : StM K.next K H K2 σ2.h := (hst1.trans (q2.stm hst1.next')).trans hst2
  have hbase2 : K2.base id = K.base id := (hK12.mu id (hr.lt id (by rw [hH]; simp))).1
  have hpre : Steps P (lone (Frame.round (K.base id) r.fn a.tmps lb.assign r.body .normal) (c :: cs) K.w) (lone (b.fr a1 [.code r.body]) (c :: cs) (K1.w.putObj (K1.base id) (.loop { r1 with state := .busy }))) :=
    Steps.trans (show Steps P (lone (b.fr a [.code lb.assign, .beginRound, .code r.body]) (c :: cs) K.w) _ from harr) (.one hbegin)
  have fin : ∀ (lb2 : LoopB) (hl2 : σ2.h id = some (.loop lb2)) (r2 : Loop), K2.w.heap[K2.base id]? = some (.loop r2) → ∀ (bb : Bool) (s : LoopState) (p : Option Code),
      (Rel (K2.at_ (K2.w.putObj (K2.base id) (.loop { r2 with state := s, pending := p }))) (upd σ2.h id (some (.loop (lb2.st s p)))) ∧ Step K2 σ2.h (K2.at_ (K2.w.putObj (K2.base id) (.loop { r2 with state := s, pending := p }))) (upd σ2.h id (some (.loop (lb2.st s p))))) →
      R (.ret (.bool bb)) (upd σ2.h id (some (.loop (lb2.st s p)))) σ2.n → Steps P (lone (b.fr a1 [.code r.body]) (c :: cs) (K1.w.putObj (K1.base id) (.loop { r1 with state := .busy }))) (lone (c.finish (.bool bb)) cs (K2.w.putObj (K.base id) (.loop { r2 with state := s, pending := p }))) →
      ∃ r' K' H', Rel K' H' ∧ Step K H K' H' ∧ R r' H' K'.next ∧ match r' with
        | .ret x => ∃ b, x = .bool b ∧ Steps P (lone (Frame.round (K.base id) r.fn a.tmps lb.assign r.body .normal) (c :: cs) K.w) (lone (c.finish (.bool b)) cs K'.w)
        | .panic x => ∃ v, VR K' x v ∧ Steps P (lone (Frame.round (K.base id) r.fn a.tmps lb.assign r.body .normal) (c :: cs) K.w) (lone (c.raise [{ v, recovered := false }]) cs K'.w) := by
    rintro lb2 hl2 r2 _ bb s p ⟨z1, z2⟩ hRb hsteps
    refine ⟨.ret (.bool bb), _, _, z1, (hK12.trans (z2.stm hK12.next')).step, ?_, bb, rfl, hpre.trans ?_⟩
    · have hn2 : K2.next = σ2.n := hs2.next
      show R _ _ K2.next
      rw [hn2]; exact hRb
    · rw [← hbase2] at hsteps; exact hsteps
  rw [g6] at *
  cases he2 with
  | normal =>
    obtain ⟨lb2, hl2, hR⟩ := hR
    obtain ⟨r2, p1, p2, p3, p4, p5, p6, p7, p8⟩ := loop_put hs2.rel hl2
    have p1' : K2.w.heap[K.base id]? = some (.loop r2) := by rw [← hbase2]; exact p1
    exact fin lb2 hl2 r2 p1 true _ _ ⟨(p8 _ _).1, (p8 _ _).2.1⟩ hR (Steps.trans harr2 (.one (st_round_end (b := b) rfl rfl p1')))
  | ret =>
    obtain ⟨lb2, hl2, hR⟩ := hR
    obtain ⟨r2, p1, p2, p3, p4, p5, p6, p7, p8⟩ := loop_put hs2.rel hl2
    have p1' : K2.w.heap[K.base id]? = some (.loop r2) := by rw [← hbase2]; exact p1
    obtain ⟨k', harr2⟩ := harr2
    exact fin lb2 hl2 r2 p1 false _ _ ⟨(p8 _ _).1, (p8 _ _).2.1⟩ hR (Steps.trans harr2 (.one (st_round_ret (b := b) rfl rfl p1')))
  | exit i =>
    obtain ⟨lb2, hl2, hR⟩ := hR
    obtain ⟨r2, p1, p2, p3, p4, p5, p6, p7, p8⟩ := loop_put hs2.rel hl2
    have p1' : K2.w.heap[K.base id]? = some (.loop r2) := by rw [← hbase2]; exact p1
    obtain ⟨k', hx, harr2⟩ := harr2
    exact fin lb2 hl2 r2 p1 false _ _ ⟨(p8 _ _).1, (p8 _ _).2.1⟩ hR (Steps.trans harr2 (.one (st_round_exit (b := b) rfl rfl (by rw [hx]; rfl) p1')))
  | goto i => obtain ⟨lb2, hl2, hR⟩ := hR; exact hR.elim
  | @panic x v hv =>
    obtain ⟨todo, hnc, harr2⟩ := harr2
    have hdef2 : a2.defers = [] := by have := hs2.dr; rw [hd2] at this; exact this
    refine ⟨.panic x, K2, σ2.h, hs2.rel, hK12.step, ?_, v, hv, hpre.trans (Steps.trans harr2 (.one (st_panicked (b := b) hnc (by rw [hdef2]; rfl))))⟩
    have hn2 : K2.next = σ2.n := hs2.next
    rw [hn2]; exact hR
theorem mo_yieldX {P : Program} {B : Fb → Prop} {ops : Array Oper} {l : List Nat} {i : Nat} {o : Oper} {Q : Ex → Act → World → Prop} {a : Act} {w : World} {lp : Nat} {f : FuncId} {tmps : Array Value} {as bd : Code}
    (ho : ops[i]? = some o) (hw : Region.wanted o (yielded ops a.tmps) = true) (hd : ∀ c, o.op ≠ .defer c) (hr : (execOp a.eval o).run P w = .ok (.round lp f tmps as bd) w)
    (h : ∀ c cs, (∃ bb w2, Steps P (lone (Frame.round lp f tmps as bd .normal) (c :: cs) w) (lone (c.finish (.bool bb)) cs w2) ∧ MO P B ops l Q (a.put o.dst (.bool bb)) w2) ∨
      (∃ v w2, Steps P (lone (Frame.round lp f tmps as bd .normal) (c :: cs) w) (lone (c.raise [{ v, recovered := false }]) cs w2) ∧ Q (.panic v) a w2)) : MO P B ops (i :: l) Q a w := by
  intro b hb k cs
  have hg := stG_op (P := P) (b := b) (k := k) (cs := cs) (w := w) (rest := l) ho hw (.inr hd)
  have henter : step P (lone (b.fr a (.inRegion ops (i :: l) :: k)) cs w) = .next (lone (Frame.round lp f tmps as bd .normal) (b.fr a (.inRegion ops (i :: l) :: k) :: cs) w) :=
    step_lone_go (by rw [hg]; simp [stepG.apply, hr, Fb.fr])
  rcases h (b.fr a (.inRegion ops (i :: l) :: k)) cs with ⟨bb, w2, hsteps, hm⟩ | ⟨v, w2, hsteps, hq⟩
  · obtain ⟨e, a', w3, hq, harr⟩ := hm b hb k cs
    rw [fin_fr ho] at hsteps
    exact ⟨e, a', w3, hq, .of_steps (.head henter hsteps) harr⟩
  · exact ⟨.panic v, a, w2, hq, .inRegion ops (i :: l) :: k, rfl, .head henter hsteps⟩
theorem wl_yieldX {P : Program} {B : Fb → Prop} {N m : Nat} {all rest : List Oper} {Q : AEx → St → Prop} {o : Oper} {σ : St} {fo : Operand} {args : Array Operand} {ats : Array TypeId} {id : Nat} {xs : List AV} {R : AR → Heap → Nat → Prop} (hop : o.op = .call { callee := .value fo, args := args, argTypes := ats })
    (hf : evo σ.tm fo = some (.yieldf id)) (hx : evs σ.tm args.toList = some xs) (hy : YX P id xs σ.h σ.n R) (hu : unguarded all o σ.tm true) (hd : ∀ t, o.dst = some t → t < N)
    (h : ∀ r h' n', R r h' n' → match r with
      | .ret x => WL P B N m all rest Q ⟨putT σ.tm o.dst x, h', n', σ.df⟩
      | .panic x => Q (.panic x) ⟨σ.tm, h', n', σ.df⟩) : WL P B N m all (o :: rest) Q σ := by
  intro pre hpre K a hm hs
  rw [range'_cons]
  have hxs := evs_sound hs.tr hx
  obtain ⟨f, tmps, as, bd, hrun, hround⟩ := hy K (args.map a.eval) hs.next hs.rel (by simpa using hxs)
  refine mo_yieldX (at_pre hpre) (wanted_of hs.tr hu) (fun c h => by rw [hop] at h; cases h) ((run_yieldop hop hs.tr hf).trans hrun) fun c cs => ?_
  obtain ⟨r, K', H', h1, h2, h3, h4⟩ := hround c cs
  have hE := h2.ext hs.rel
  have hk := h r H' K'.next h3
  cases r with
  | ret x =>
    obtain ⟨b, rfl, h4⟩ := h4
    refine .inl ⟨b, K'.w, h4, ?_⟩
    have hs' : SR K' N ⟨putT σ.tm o.dst (.bool b), H', K'.next, σ.df⟩ (a.put o.dst (.bool b)) := ⟨rfl, h1, (hs.tr.mono hE).put hd (.bool b), by rw [put_defers]; exact hs.dr.mono hE⟩
    exact (hk (pre ++ [_]) (by simp [hpre]) K' _ (Nat.le_trans hm h2.next) hs').mono fun _ _ _ hq => hq.step (h2.stm hm)
  | panic x =>
    obtain ⟨v, hv, h4⟩ := h4
    exact .inr ⟨v, K'.w, h4, K', ⟨σ.tm, H', K'.next, σ.df⟩, .panic x, rfl, ⟨rfl, h1, hs.tr.mono hE, hs.dr.mono hE⟩, h2.stm hm, .panic hv, hk⟩
/-- A panic with a value. -/
theorem wl_panic {P : Program} {B : Fb → Prop} {N m : Nat} {all rest : List Oper} {o : Oper} {Q : AEx → St → Prop} {σ : St} {x : Operand} {t : TypeId} {y : AV} (hop : o.op = .panic x) (hu : unguarded all o σ.tm true) (hx : evo σ.tm x = some (.iface t y)) (hq : Q (.panic (.iface t y)) σ) : WL P B N m all (o :: rest) Q σ := by
  intro pre hp K a hm hs
  rw [range'_cons]
  have hv := evo_sound hs.tr hx
  generalize hh : a.eval x = v at hv
  cases hv with
  | @iface _ _ u hu2 =>
    refine mo_panic (v := .iface t u) (w' := K.w) (at_pre hp) (wanted_of hs.tr hu) (fun c h => by rw [hop] at h; cases h) ?_ ⟨K, σ, _, rfl, hs, .refl hm _, .panic (.iface hu2), hq⟩
    unfold execOp; rw [hop]
    simp only [hh]
    rfl
/-- The loop, with a panic in it. -/
theorem w_rangeX {P : Program} {N m : Nat} {Q : AEx → St → Prop} {tm : Nat → AV} {hp : Heap} {n : Nat} {df : List Nat} {f : Operand} {ps : Array Tmp} {as bd : Code} {g : FuncId} {first cap : List AV} {R : AR → Heap → Nat → Prop} (hf : evo tm f = some (.func (.func g) first cap)) (hc : Callable P g)
    (hac : AC P g (first ++ [.yieldf (n + 1)] ++ cap) (upd (upd hp n (some .deferred)) (n + 1) (some (.loop ⟨tm, N, ps, as, bd, .ready, none⟩))) (n + 2) R)
    (h : ∀ r h' n', R r h' n' → (∃ x lb', r = .ret x ∧ h' (n + 1) = some (.loop lb') ∧ lb'.state ≠ .busy ∧
      match lb'.pending with
      | none => Q .normal ⟨tm, upd h' (n + 1) none, n', n :: df⟩
      | some c => W P Plain N m c Q ⟨tm, upd h' (n + 1) none, n', n :: df⟩) ∨ (∃ x, r = .panic x ∧ Q (.panic x) ⟨tm, h', n', n :: df⟩)) : W P Plain N m (.rangeFunc f ps as bd) Q ⟨tm, hp, n, df⟩ := by
  intro K a hm hs b hb k cs
  have hn : K.next = n := hs.next
  subst hn
  have hv := evo_sound hs.tr hf
  generalize hh : a.eval f = v at hv
  cases hv
  rename_i fs cp g1 g2 g3 g4 g5
  have hfs : VRs K first fs.toList := VR.agg_.1 (.agg g2 g3)
  have hcp : VRs K cap cp.toList := VR.agg_.1 (.agg g4 g5)
  let o1 : Obj := .deferred (some [])
  let K1 := K.newOwn o1 0
  have hb1 : BR K1 K.next .deferred := by
    show K1.w.heap[K1.base K.next]? = _
    have e1 : K1.base K.next = K.w.heap.size := upd_same _ _ _
    rw [e1]
    show (K.w.heap.push o1)[K.w.heap.size]? = _
    simp [o1]
  obtain ⟨q1, q2⟩ := newOwn_ok (sz := 0) hs.rel hb1
  have hE1 := newOwn_ext hs.rel o1 0
  let o2 : Obj := .loop { state := .ready, pending := none, fn := b.fn, tmps := a.tmps, params := ps, assign := as, body := bd, defers := K.w.heap.size }
  let K2 := K1.newOwn o2 0
  have hE2 := newOwn_ext q1 o2 0
  have hz1 : K1.w.heap.size = K.w.heap.size + 1 := by show (K.w.heap.push o1).size = _; simp
  have hb2 : BR K2 K1.next (.loop ⟨tm, N, ps, as, bd, .ready, none⟩) := by
    refine ⟨b.fn, a.tmps, K.w.heap.size, ?_, (hs.tr.mono hE1).mono hE2⟩
    have e1 : K2.base K1.next = K1.w.heap.size := upd_same _ _ _
    rw [e1]
    show (K1.w.heap.push o2)[K1.w.heap.size]? = _
    simp [o2]
  obtain ⟨q3, q4⟩ := newOwn_ok (sz := 0) q1 hb2
  have hbase : K2.base (K.next + 1) = K.w.heap.size + 1 := by
    have e1 : K2.base K1.next = K1.w.heap.size := upd_same _ _ _
    exact e1.trans hz1
  have hargs : VRs K2 (first ++ [.yieldf (K.next + 1)] ++ cap) (((fs ++ #[Value.func (.yield (K.w.heap.size + 1)) #[] #[]]) ++ cp).toList) := by
    have hy : VR K2 (.yieldf (K.next + 1)) (.func (.yield (K.w.heap.size + 1)) #[] #[]) := by
      rw [← hbase]; exact .yieldf (Nat.lt_succ_self _)
    simp only [Array.toList_append]
    exact (((hfs.mono hE1).mono hE2).append (.cons hy (.nil _))).append ((hcp.mono hE1).mono hE2)
  let a' : Act := { a with defers := { target := .collected K.w.heap.size, args := #[] } :: a.defers }
  obtain ⟨e, w3, fr, ⟨K3, H3, r, rfl, hrel3, hst3, hrr, hR⟩, hcomes, _, hleave⟩ := hac K2 _ rfl q3 hargs (b.fr a' (.inRangeFunc (K.w.heap.size + 1) :: k) :: cs)
  have hE3 := hst3.ext q3
  have hdr : DR K3 H3 (K.next :: df) a'.defers := by
    refine ⟨a.defers, ?_, ?_, ((hs.dr.mono (H' := hp) hE1).mono (H' := hp) hE2).mono (H' := H3) hE3⟩
    · have e1 : K3.base K.next = K2.base K.next := (hst3.mu K.next (show K.next < K2.next from Nat.lt_succ_of_lt (Nat.lt_succ_self _))).1
      have e2 : K2.base K.next = K1.base K.next := upd_ne _ _ (Nat.ne_of_lt (Nat.lt_succ_self _))
      have e3 : K1.base K.next = K.w.heap.size := upd_same _ _ _
      show a'.defers = { target := .collected (K3.base K.next), args := #[] } :: a.defers
      rw [e1, e2, e3]
    · exact Nat.lt_of_lt_of_le (show K.next < K2.next from Nat.lt_succ_of_lt (Nat.lt_succ_self _)) hst3.next
  rcases h r H3 K3.next hR with ⟨x, lb', rfl, hl3, hbusy, hq⟩ | ⟨x, rfl, hq⟩
  rotate_left
  · cases hrr with
    | @panic _ v hvx =>
      refine ⟨.panic v, a', K3.w, ⟨K3, ⟨tm, H3, K3.next, K.next :: df⟩, .panic x, rfl, ⟨rfl, hrel3, ((hs.tr.mono hE1).mono hE2).mono hE3, hdr⟩, ((q2.trans q4).trans hst3).stm hm, .panic hvx, hq⟩, .inRangeFunc (K.w.heap.size + 1) :: k, rfl, ?_⟩
      exact .head (st_range hb hh hc) (Steps.trans hcomes (.one (step_leave_panicked hleave)))
  cases hrr with
  | @ret _ v hvx =>
    obtain ⟨rr, p1, p2, p3, _, _, _, _, _⟩ := loop_put hrel3 hl3
    have hmu3 := hst3.mu (K.next + 1) (Nat.lt_succ_self _)
    have hb3 : K3.base (K.next + 1) = K.w.heap.size + 1 := hmu3.1.trans hbase
    have hne : H3 (K.next + 1) ≠ none := by rw [hl3]; simp
    have hw := wrote_put K3.w (K3.base (K.next + 1)) (.loop { rr with state := .exhausted })
    obtain ⟨d1, d2⟩ := wrote_drop hrel3 hne hw
    have hE4 := wrote_ext hrel3 hne hw
    have hsteps : Steps P (lone (b.fr a (.code (.rangeFunc f ps as bd) :: k)) cs K.w) (lone (b.fr a' ((lb'.pending.map Item.code).toList ++ k)) cs (K3.w.putObj (K3.base (K.next + 1)) (.loop { rr with state := .exhausted }))) := by
      refine .head (st_range hb hh hc) (Steps.trans hcomes (.head (step_leave_returned hleave) ?_))
      rw [fin_range]
      have := st_endRange (P := P) (b := b) (a := a') (k := k) (cs := cs) (w := K3.w) (l := K.w.heap.size + 1) (r := rr) (by rw [← hb3]; exact p1) (by rw [p2]; exact hbusy)
      rw [hb3, ← p3]
      exact .one this
    have hdr := hdr.mono (H' := upd H3 (K.next + 1) none) hE4
    have hs4 : SR (K3.at_ (K3.w.putObj (K3.base (K.next + 1)) (.loop { rr with state := .exhausted }))) N ⟨tm, upd H3 (K.next + 1) none, K3.next, K.next :: df⟩ a' := ⟨rfl, d1, (((hs.tr.mono hE1).mono hE2).mono hE3).mono hE4, hdr⟩
    have hst4 : StM m K hp (K3.at_ (K3.w.putObj (K3.base (K.next + 1)) (.loop { rr with state := .exhausted }))) (upd H3 (K.next + 1) none) := (((q2.trans q4).trans hst3).trans d2).stm hm
    cases hpe : lb'.pending with
    | none =>
      rw [hpe] at hq hsteps
      exact ⟨.normal, a', _, ⟨_, _, .normal, rfl, hs4, hst4, .normal, hq⟩, hsteps⟩
    | some c =>
      rw [hpe] at hq hsteps
      obtain ⟨e5, a5, w5, ⟨K5, σ5, e5', rfl, hs5, hst5, he5, hq5⟩, harr5⟩ := hq _ a' hst4.next' hs4 b hb k cs
      exact ⟨e5, a5, _, ⟨K5, σ5, e5', rfl, hs5, hst4.trans hst5, he5, hq5⟩, .of_steps hsteps harr5⟩
def noGoto (Q : AEx → St → Prop) : AEx → St → Prop := fun e σ => match e with
  | .goto _ => False
  | e => Q e σ
theorem w_scope {P : Program} {B : Fb → Prop} {N m : Nat} {c : Code} {Q : AEx → St → Prop} {σ : St} (h : W P B N m c (noGoto Q) σ) : W P B N m (.scope c) Q σ := by
  intro K a hm hs
  refine mw_scope (fun _ _ _ _ => False) 0 ((h K a hm hs).mono ?_) (fun _ _ _ _ _ _ h => h.elim)
  rintro e a' w' ⟨K', σ', e', h1, h2, h3, h4, h5⟩
  cases h4 with
  | goto l => exact h5.elim
  | normal => exact ⟨K', σ', _, h1, h2, h3, .normal, h5⟩
  | exit i => exact ⟨K', σ', _, h1, h2, h3, .exit i, h5⟩
  | ret => exact ⟨K', σ', _, h1, h2, h3, .ret, h5⟩
  | panic hv => exact ⟨K', σ', _, h1, h2, h3, .panic hv, h5⟩
end Go.Lg

/- Functions with one deferred call of a closure that recovers. -/
set_option linter.unusedSimpArgs false
set_option linter.unusedSectionVars false
namespace Go.Lg
open Go
variable [GO]
set_option linter.unusedVariables false
/-- The frame comes to its end so. -/
def EndsP (P : Program) (f : FuncId) (Q : AR → Heap → Nat → Prop) (K0 : Ctx) (H0 : Heap) (m : Machine) (cs : List Frame) : Prop :=
  ∃ e w' fr, (∃ K' H' r, K'.w = w' ∧ Rel K' H' ∧ Step K0 H0 K' H' ∧ RR K' r e ∧ Q r H' K'.next) ∧ Comes P m (lone fr cs w') e ∧ fr.fn = f ∧ fr.leaving P w' e
theorem EndsP.of_steps {P : Program} {f : FuncId} {Q : AR → Heap → Nat → Prop} {K0 : Ctx} {H0 : Heap} {m m1 : Machine} {cs : List Frame} (h : Steps P m m1) (h' : EndsP P f Q K0 H0 m1 cs) : EndsP P f Q K0 H0 m cs := by
  obtain ⟨e, w', fr, h1, h2, h3⟩ := h'
  exact ⟨e, w', fr, h1, .of_steps h h2, h3⟩
/-- A closure, run as a deferred call where its caller returns (none), or panics with a value. -/
def PVal (K : Ctx) (pv : Option AV) (m : FrameMode) : Prop := match pv with
  | none => m = .returning
  | some x => ∃ v, m = .panicking [{ v, recovered := false }] ∧ VR K x v
def DC (P : Program) (g : FuncId) (cap : List AV) (pv : Option AV) (H : Heap) (n : Nat) (R : Heap → Nat → Prop) : Prop :=
  ∀ K (caps : Array Value), K.next = n → Rel K H → VRs K cap caps.toList → ∀ (fr : Frame) cs, PVal K pv fr.mode → ∃ K' H', Rel K' H' ∧ Step K H K' H' ∧ R H' K'.next ∧
    Steps P (lone (Frame.enter P g caps .deferred) (fr :: cs) K.w) (lone { fr with mode := .returning } cs K'.w)
def pvA (pv : Option AV) : AV := match pv with
  | none => .nilIface
  | some x => x
theorem enter_okD {P : Program} {f : FuncId} {fn : Func} {c : Code} {args : List AV} {K : Ctx} {vs : Array Value} (hf : P.funcs[f]? = some fn) (hb : fn.body = some c) (hN : args.length ≤ fn.ntmps) (hvs : VRs K args vs.toList) :
    ∃ a : Act, a.defers = [] ∧ Frame.enter P f vs .deferred = (⟨f, .deferred, none, []⟩ : Fb).fr a [.code c] ∧ TR K fn.ntmps (args0 args) a.tmps := by
  obtain ⟨a, h1, h2, h3⟩ := enter_ok hf hb hN hvs
  refine ⟨a, h1, ?_, h3⟩
  have e1 : Frame.enter P f vs .deferred = { Frame.enter P f vs .normal with kind := .deferred } := rfl
  rw [e1, h2]
  rfl
/-- The recovering operation. -/
def isRec (o : Oper) (d : Tmp) : Prop := o.dst = some d ∧ o.guard = none ∧ ∃ ats, o.op = .call { callee := .builtin .recover, args := #[], argTypes := ats }
theorem rec_run {P : Program} {o : Oper} {d : Tmp} (h : isRec o d) (ρ : Operand → Value) (w : World) : (execOp ρ o).run P w = .ok .recover w := by
  obtain ⟨_, _, ats, hop⟩ := h
  unfold execOp; rw [hop]
  rfl
theorem st_recover {P : Program} {g : FuncId} {a : Act} {ops : Array Oper} {i : Nat} {l : List Nat} {k : List Item} {o : Oper} {d : Tmp} {K : Ctx} {pv : Option AV} {fr : Frame} {cs : List Frame} {w : World} (ho : ops[i]? = some o) (hr : isRec o d) (hp : PVal K pv fr.mode) :
    ∃ v fr', VR K (pvA pv) v ∧ step P (lone ((⟨g, .deferred, none, []⟩ : Fb).fr a (.inRegion ops (i :: l) :: k)) (fr :: cs) w) = .next (lone ((⟨g, .deferred, none, []⟩ : Fb).fr (a.put (some d) v) (.inRegion ops l :: k)) (fr' :: cs) w) ∧
      (fr' = fr ∧ fr.mode = .returning ∨ ∃ v', fr' = { fr with mode := .panicking [{ v := v', recovered := true }] }) := by
  have hw : Region.wanted o (yielded ops a.tmps) = true := by simp [Region.wanted, hr.2.1]
  have hg := stG_op (P := P) (b := ⟨g, .deferred, none, []⟩) (a := a) (k := k) (cs := fr :: cs) (w := w) (rest := l) ho hw (.inl rfl)
  have hfin := fin_fr (l := l) (b := ⟨g, .deferred, none, []⟩) (a := a) (k := k) ho
  rw [hr.1] at hfin
  cases pv with
  | none =>
    have hm : fr.mode = .returning := hp
    refine ⟨.nilIface, fr, .nilIface, step_lone_go ?_, .inl ⟨rfl, hm⟩⟩
    rw [hg]
    have ht : tryRecover ((⟨g, .deferred, none, []⟩ : Fb).fr a (.inRegion ops (i :: l) :: k)) (fr :: cs) = none := by simp [tryRecover, Fb.fr, hm]
    simp only [stepG.apply, rec_run hr, if_true]
    have hround : ((⟨g, .deferred, none, []⟩ : Fb).fr a (.inRegion ops (i :: l) :: k)).roundOf = none := rfl
    simp only [hround, ht, hfin]
    simp [Sem.runT_eq, rec_run hr]
  | some x =>
    obtain ⟨v, hm, hv⟩ := hp
    refine ⟨v, { fr with mode := .panicking [{ v, recovered := true }] }, hv, step_lone_go ?_, .inr ⟨v, rfl⟩⟩
    rw [hg]
    have ht : tryRecover ((⟨g, .deferred, none, []⟩ : Fb).fr a (.inRegion ops (i :: l) :: k)) (fr :: cs) = some (v, { fr with mode := .panicking [{ v, recovered := true }] } :: cs) := by simp [tryRecover, Fb.fr, hm]
    have hround : ((⟨g, .deferred, none, []⟩ : Fb).fr a (.inRegion ops (i :: l) :: k)).roundOf = none := rfl
    simp [stepG.apply, Sem.runT_eq, rec_run hr, hround, ht, hfin]
/-- A deferred frame returns. -/
theorem st_def_return {P : Program} {g : FuncId} {fn : Func} {a : Act} {todo : List Item} {fr fr' : Frame} {cs : List Frame} {w : World} (hf : P.funcs[g]? = some fn) (hres : fn.results = #[]) (hd : a.defers = [])
    (hfr : fr' = fr ∧ fr.mode = .returning ∨ ∃ v', fr' = { fr with mode := .panicking [{ v := v', recovered := true }] }) :
    step P (lone { (⟨g, .deferred, none, []⟩ : Fb).fr a todo with mode := .returning } (fr' :: cs) w) = .next (lone { fr with mode := .returning } cs w) := by
  have hrun : (results fn a.tmps).run P w = .ok (.tuple #[]) w := by simp [results, hres, Sem.run]
  refine step_lone_go ?_
  rcases hfr with ⟨rfl, hm⟩ | ⟨v', rfl⟩
  · have e1 : ({ fr' with mode := .returning } : Frame) = fr' := by cases fr'; simp only at hm; subst hm; rfl
    rw [e1]
    simp [stepG, unwind, Fb.fr, hd, hf, Sem.runT_eq, hrun, doReturn, hm]
  · simp [stepG, unwind, Fb.fr, hd, hf, Sem.runT_eq, hrun, doReturn]
theorem dc_of_w {P : Program} {g : FuncId} {fn : Func} {id : Nat} {ops : Array Oper} {o : Oper} {d : Tmp} {rest : Code} {cap : List AV} {pv : Option AV} {H : Heap} {n : Nat} {R : Heap → Nat → Prop} (hf : P.funcs[g]? = some fn) (hb : fn.body = some (.seq (.region id ops false) rest)) (hops : ops = #[o]) (hrec : isRec o d) (hres : fn.results = #[]) (hN : cap.length ≤ fn.ntmps) (hd : d < fn.ntmps)
    (h : W P Plain fn.ntmps n rest (fun e σ => (e = .normal ∨ e = .ret) ∧ σ.df = [] ∧ R σ.h σ.n) ⟨upd (args0 cap) d (pvA pv), H, n, []⟩) : DC P g cap pv H n R := by
  intro K caps hn hrel hvs fr cs hp
  obtain ⟨a, had, henter, htr⟩ := enter_okD hf hb hN hvs
  have ho : ops[0]? = some o := by rw [hops]; rfl
  obtain ⟨v, fr', hv, hstep, hfr⟩ := st_recover (P := P) (g := g) (a := a) (l := []) (k := [.code rest]) (cs := cs) (w := K.w) ho hrec hp
  have htr2 : TR K fn.ntmps (upd (args0 cap) d (pvA pv)) (a.put (some d) v).tmps := TR.put (d := some d) htr (fun t ht => by cases ht; exact hd) hv
  have hs : SR K fn.ntmps ⟨upd (args0 cap) d (pvA pv), H, n, []⟩ (a.put (some d) v) := ⟨hn, hrel, htr2, by rw [put_defers]; exact had⟩
  obtain ⟨e, a', w', ⟨K', σ', e', hw, hs', hst, he, hq1, hq2, hq3⟩, harr⟩ := h K (a.put (some d) v) (Nat.le_of_eq hn.symm) hs ⟨g, .deferred, none, []⟩ rfl [] (fr' :: cs)
  have hst : Step K H K' σ'.h := (hn ▸ hst : StM K.next K H K' σ'.h).step
  subst hw
  have hdd : a'.defers = [] := by have := hs'.dr; rw [hq2] at this; exact this
  have hpre : Steps P (lone (Frame.enter P g caps .deferred) (fr :: cs) K.w) (lone ((⟨g, .deferred, none, []⟩ : Fb).fr (a.put (some d) v) [.code rest]) (fr' :: cs) K.w) := by
    rw [henter]
    refine .head st_seq (.head st_region ?_)
    have : List.range ops.size = [0] := by rw [hops]; rfl
    rw [this]
    exact .head hstep (.one st_region_end)
  refine ⟨K', σ'.h, hs'.rel, hst, by rw [hs'.next]; exact hq3, ?_⟩
  cases he with
  | normal => exact Steps.trans hpre (Steps.trans harr (.head (st_end rfl) (.one (st_def_return hf hres hdd hfr))))
  | ret => obtain ⟨k1, harr⟩ := harr; exact Steps.trans hpre (Steps.trans harr (.head (st_ret rfl) (.one (st_def_return hf hres hdd hfr))))
  | exit i => rcases hq1 with h | h <;> cases h
  | goto i => rcases hq1 with h | h <;> cases h
  | panic _ => rcases hq1 with h | h <;> cases h

/-! the function's code, item by item -/
def DT (P : Program) (K : Ctx) (dc : Option (FuncId × List AV)) (dt : List Deferred) : Prop := match dc with
  | none => dt = []
  | some (g, cap) => ∃ caps, dt = [{ target := .fn (.func g) caps, args := #[] }] ∧ VRs K cap caps.toList ∧ Callable P g
theorem DT.mono {P : Program} {K K' : Ctx} (hE : Ext K K') {dc : Option (FuncId × List AV)} {dt : List Deferred} (h : DT P K dc dt) : DT P K' dc dt := by
  cases dc with
  | none => exact h
  | some p => obtain ⟨caps, h1, h2, h3⟩ := h; exact ⟨caps, h1, h2.mono hE, h3⟩
def FT (P : Program) (f : FuncId) (N : Nat) (Q : AR → Heap → Nat → Prop) (dc : Option (FuncId × List AV)) (todo : List Item) (σ : St) : Prop :=
  ∀ K a cs K0 H0 dt, Step K0 H0 K σ.h → SR K N σ a → DT P K dc dt → EndsP P f Q K0 H0 (lone ((⟨f, .normal, none, dt⟩ : Fb).fr a todo) cs K.w) cs
/-- The function's end: by a return. -/
def FinR (P : Program) (fn : Func) (Q : AR → Heap → Nat → Prop) (dc : Option (FuncId × List AV)) (σ : St) : Prop :=
  Marks σ.h σ.df ∧ match dc with
    | none => ∃ x, ResV P fn.ntmps fn ⟨σ.tm, killAll σ.h σ.df, σ.n, []⟩ x ∧ Q (.ret x) (killAll σ.h σ.df) σ.n
    | some (g, cap) => DC P g cap none (killAll σ.h σ.df) σ.n fun H n => ∃ x, ResV P fn.ntmps fn ⟨σ.tm, H, n, []⟩ x ∧ Q (.ret x) H n
/-- The function's end: by a panic. -/
def FinP (P : Program) (fn : Func) (Q : AR → Heap → Nat → Prop) (dc : Option (FuncId × List AV)) (x : AV) (σ : St) : Prop :=
  Marks σ.h σ.df ∧ match dc with
    | none => Q (.panic x) (killAll σ.h σ.df) σ.n
    | some (g, cap) => DC P g cap (some x) (killAll σ.h σ.df) σ.n fun H n => ∃ x, ResV P fn.ntmps fn ⟨σ.tm, H, n, []⟩ x ∧ Q (.ret x) H n
theorem st_callDef {P : Program} {fr : Frame} {cs : List Frame} {w : World} {g : FuncId} {caps : Array Value} (hm : fr.mode ≠ .run) (hd : fr.defers = [{ target := .fn (.func g) caps, args := #[] }]) (hc : Callable P g) :
    step P (lone fr cs w) = .next (lone (Frame.enter P g caps .deferred) ({ fr with defers := [] } :: cs) w) := by
  have hinv : (invoke (.fn (.func g) caps) #[]).run P w = .ok (.enter g caps) w := by
    unfold invoke
    have := callFunc_run hc (#[] ++ caps) w
    simpa using this
  refine step_lone_go ?_
  cases h : fr.mode with
  | run => exact absurd h hm
  | returning => simp [stepG, unwind, h, hd, callDeferred, Sem.runT_eq, hinv]
  | panicking ch => simp [stepG, unwind, h, hd, callDeferred, Sem.runT_eq, hinv]
section
variable {P : Program} {f : FuncId} {fn : Func} {Q : AR → Heap → Nat → Prop} {dc : Option (FuncId × List AV)} {todo : List Item} {σ : St} (hf : P.funcs[f]? = some fn)
include hf
/-- From the end of the code on. -/
theorem fin_ret (h : FinR P fn Q dc σ) {K : Ctx} {a : Act} {cs : List Frame} {K0 : Ctx} {H0 : Heap} {dt : List Deferred} {todo : List Item} (hst : Step K0 H0 K σ.h) (hs : SR K fn.ntmps σ a) (hdt : DT P K dc dt) :
    EndsP P f Q K0 H0 (lone { (⟨f, .normal, none, dt⟩ : Fb).fr a todo with mode := .returning } cs K.w) cs := by
  obtain ⟨w2, h1, h2, h3⟩ := unwinds (P := P) (cs := cs) dt σ.df K σ.h { (⟨f, .normal, none, dt⟩ : Fb).fr a todo with mode := .returning } a.defers (fun h => by cases h) hs.rel rfl hs.dr h.1
  have hE := h3.ext hs.rel
  have htr : TR (K.at_ w2) fn.ntmps σ.tm a.tmps := hs.tr.mono hE
  have hn2 : (K.at_ w2).next = σ.n := hs.next
  refine .of_steps h1 ?_
  cases dc with
  | none =>
    have hdt0 : dt = [] := hdt
    subst hdt0
    obtain ⟨_, x, hx, hQ⟩ := h
    have hs2 : SR (K.at_ w2) fn.ntmps ⟨σ.tm, killAll σ.h σ.df, σ.n, []⟩ { a with defers := [] } := ⟨hn2, h2, htr, rfl⟩
    obtain ⟨v, hr, hv⟩ := hx _ _ hs2
    exact ⟨.returned v, w2, _, ⟨K.at_ w2, _, .ret x, rfl, h2, hst.trans h3, .ret hv, by rw [hn2]; exact hQ⟩, .refl _ _, rfl, rfl, rfl, rfl, fn, hf, hr⟩
  | some p =>
    obtain ⟨g, cap⟩ := p
    obtain ⟨caps, rfl, hcap, hcal⟩ := hdt
    obtain ⟨_, hdc⟩ := h
    obtain ⟨K', H', g1, g2, ⟨x, hx, hQ⟩, g4⟩ := hdc (K.at_ w2) caps hn2 h2 (hcap.mono hE) { (⟨f, .normal, none, [{ target := .fn (.func g) caps, args := #[] }]⟩ : Fb).fr a todo with mode := .returning, defers := [] } cs rfl
    have hE2 := g2.ext h2
    have hs2 : SR K' fn.ntmps ⟨σ.tm, H', K'.next, []⟩ { a with defers := [] } := ⟨rfl, g1, htr.mono hE2, rfl⟩
    obtain ⟨v, hr, hv⟩ := hx _ _ hs2
    refine .of_steps (.head (st_callDef (g := g) (caps := caps) (fun h => by cases h) rfl hcal) g4) ?_
    exact ⟨.returned v, K'.w, _, ⟨K', H', .ret x, rfl, g1, (hst.trans h3).trans g2, .ret hv, hQ⟩, .refl _ _, rfl, rfl, rfl, rfl, fn, hf, hr⟩
theorem fin_panic {x : AV} (h : FinP P fn Q dc x σ) {K : Ctx} {a : Act} {cs : List Frame} {K0 : Ctx} {H0 : Heap} {dt : List Deferred} {todo : List Item} {v : Value} (hst : Step K0 H0 K σ.h) (hs : SR K fn.ntmps σ a) (hdt : DT P K dc dt) (hv : VR K x v) :
    EndsP P f Q K0 H0 (lone { (⟨f, .normal, none, dt⟩ : Fb).fr a todo with mode := .panicking [{ v, recovered := false }] } cs K.w) cs := by
  obtain ⟨w2, h1, h2, h3⟩ := unwinds (P := P) (cs := cs) dt σ.df K σ.h { (⟨f, .normal, none, dt⟩ : Fb).fr a todo with mode := .panicking [{ v, recovered := false }] } a.defers (fun h => by cases h) hs.rel rfl hs.dr h.1
  have hE := h3.ext hs.rel
  have htr : TR (K.at_ w2) fn.ntmps σ.tm a.tmps := hs.tr.mono hE
  have hn2 : (K.at_ w2).next = σ.n := hs.next
  refine .of_steps h1 ?_
  cases dc with
  | none =>
    have hdt0 : dt = [] := hdt
    subst hdt0
    exact ⟨.panicked _, w2, _, ⟨K.at_ w2, _, .panic x, rfl, h2, hst.trans h3, .panic (hv.mono hE), by rw [hn2]; exact h.2⟩, .refl _ _, rfl, rfl, rfl, fn, hf⟩
  | some p =>
    obtain ⟨g, cap⟩ := p
    obtain ⟨caps, rfl, hcap, hcal⟩ := hdt
    obtain ⟨_, hdc⟩ := h
    obtain ⟨K', H', g1, g2, ⟨y, hx, hQ⟩, g4⟩ := hdc (K.at_ w2) caps hn2 h2 (hcap.mono hE) { (⟨f, .normal, none, [{ target := .fn (.func g) caps, args := #[] }]⟩ : Fb).fr a todo with mode := .panicking [{ v, recovered := false }], defers := [] } cs ⟨v, rfl, hv.mono hE⟩
    have hE2 := g2.ext h2
    have hs2 : SR K' fn.ntmps ⟨σ.tm, H', K'.next, []⟩ { a with defers := [] } := ⟨rfl, g1, htr.mono hE2, rfl⟩
    obtain ⟨u, hr, hu⟩ := hx _ _ hs2
    refine .of_steps (.head (st_callDef (g := g) (caps := caps) (fun h => by cases h) rfl hcal) g4) ?_
    exact ⟨.returned u, K'.w, _, ⟨K', H', .ret y, rfl, g1, (hst.trans h3).trans g2, .ret hu, hQ⟩, .refl _ _, rfl, rfl, rfl, rfl, fn, hf, hr⟩
theorem ft_nil (h : FinR P fn Q dc σ) : FT P f fn.ntmps Q dc [] σ := by
  intro K a cs K0 H0 dt hst hs hdt
  exact .of_steps (.one (st_end rfl)) (fin_ret hf h hst hs hdt)
/-- One piece of code. -/
theorem ft_code {c : Code} (h : W P Plain fn.ntmps σ.n c (fun e σ' => match e with
    | .normal => FT P f fn.ntmps Q dc todo σ'
    | .ret => FinR P fn Q dc σ'
    | .panic x => FinP P fn Q dc x σ'
    | _ => False) σ) : FT P f fn.ntmps Q dc (.code c :: todo) σ := by
  intro K a cs K0 H0 dt hst hs hdt
  obtain ⟨e, a', w', ⟨K', σ', e', rfl, hs', hst2, he, hq⟩, harr⟩ := h K a (Nat.le_of_eq hs.next.symm) hs ⟨f, .normal, none, dt⟩ rfl todo cs
  have hst2 : Step K σ.h K' σ'.h := (hs.next ▸ hst2 : StM K.next K σ.h K' σ'.h).step
  have hE := hst2.ext hs.rel
  cases he with
  | normal => exact .of_steps harr (hq K' a' cs K0 H0 dt (hst.trans hst2) hs' (hdt.mono hE))
  | ret => obtain ⟨k1, harr⟩ := harr; exact .of_steps (Steps.trans harr (.one (st_ret rfl))) (fin_ret hf hq (hst.trans hst2) hs' (hdt.mono hE))
  | panic hv => obtain ⟨k1, _, harr⟩ := harr; exact .of_steps harr (fin_panic hf hq (hst.trans hst2) hs' (hdt.mono hE) hv)
  | exit i => exact hq.elim
  | goto i => exact hq.elim
omit hf in
theorem ft_seq {N : Nat} {x y : Code} (h : FT P f N Q dc (.code x :: .code y :: todo) σ) : FT P f N Q dc (.code (.seq x y) :: todo) σ :=
  fun K a cs K0 H0 dt hst hs hdt => .of_steps (.one st_seq) (h K a cs K0 H0 dt hst hs hdt)
omit hf in
theorem ft_region {N id : Nat} {ops : Array Oper} (h : FT P f N Q dc (.inRegion ops (List.range ops.size) :: todo) σ) : FT P f N Q dc (.code (.region id ops false) :: todo) σ :=
  fun K a cs K0 H0 dt hst hs hdt => .of_steps (.one st_region) (h K a cs K0 H0 dt hst hs hdt)
omit hf in
theorem ft_rnil {N : Nat} {ops : Array Oper} (h : FT P f N Q dc todo σ) : FT P f N Q dc (.inRegion ops [] :: todo) σ :=
  fun K a cs K0 H0 dt hst hs hdt => .of_steps (.one st_region_end) (h K a cs K0 H0 dt hst hs hdt)
omit hf in
theorem ft_op {N : Nat} {all : List Oper} {i : Nat} {l : List Nat} {o : Oper} {x : AV} {h' : Heap} {n' : Nat} (ho : all[i]? = some o) (hu : unguarded all o σ.tm true) (hd : ∀ t, o.dst = some t → t < N) (hdf : ∀ c, o.op ≠ .defer c) (hv : OpV P N o σ x h' n')
    (h : FT P f N Q dc (.inRegion all.toArray l :: todo) ⟨putT σ.tm o.dst x, h', n', σ.df⟩) : FT P f N Q dc (.inRegion all.toArray (i :: l) :: todo) σ := by
  intro K a cs K0 H0 dt hst hs hdt
  obtain ⟨v, K', hr, hn, hrel, hst2, hvr⟩ := hv K a hs
  have hE := hst2.ext hs.rel
  have hs' : SR K' N ⟨putT σ.tm o.dst x, h', n', σ.df⟩ (a.put o.dst v) := ⟨hn, hrel, (hs.tr.mono hE).put hd hvr, by rw [put_defers]; exact hs.dr.mono hE⟩
  have ho' : all.toArray[i]? = some o := by simpa using ho
  have hg := stG_op (P := P) (b := ⟨f, .normal, none, dt⟩) (a := a) (k := todo) (cs := cs) (w := K.w) (rest := l) ho' (wanted_of hs.tr hu) (.inl rfl)
  have hfin := fin_fr (l := l) (b := ⟨f, .normal, none, dt⟩) (a := a) (k := todo) ho'
  refine .of_steps (.one (step_lone_go ?_)) (h K' _ cs K0 H0 dt (hst.trans hst2) hs' (hdt.mono hE))
  rw [hg]
  rcases hr with hr | ⟨hr, rfl⟩
  · simp [stepG.apply, Sem.runT_eq, hr, hfin]
  · simp [stepG.apply, Sem.runT_eq, hr, hfin]
omit hf in
/-- The deferred call. -/
theorem ft_defer {N : Nat} {all : List Oper} {i : Nat} {l : List Nat} {o : Oper} {fo : Operand} {ats : Array TypeId} {g : FuncId} {cap : List AV} (ho : all[i]? = some o) (hop : o.op = .defer { callee := .value fo, args := #[], argTypes := ats }) (hu : unguarded all o σ.tm true) (hd : ∀ t, o.dst = some t → t < N)
    (hfo : evo σ.tm fo = some (.func (.func g) [] cap)) (hdf : σ.df = []) (hc : Callable P g) (h : FT P f N Q (some (g, cap)) (.inRegion all.toArray l :: todo) ⟨putT σ.tm o.dst (.tuple []), σ.h, σ.n, []⟩) : FT P f N Q none (.inRegion all.toArray (i :: l) :: todo) σ := by
  intro K a cs K0 H0 dt hst hs hdt
  have hdt0 : dt = [] := hdt
  subst hdt0
  have hdd : a.defers = [] := by have := hs.dr; rw [hdf] at this; exact this
  have hv := evo_sound hs.tr hfo
  generalize hh : a.eval fo = v at hv
  cases hv
  rename_i fs cs2 h1 h2 h3 h4 h5
  have hfs : fs = #[] := by
    have : fs.size = 0 := by simpa using h2
    exact Array.eq_empty_of_size_eq_zero this
  subst hfs
  have hcap : VRs K cap cs2.toList := ⟨by simpa using h4, fun i x v hx hv => by
    have := h5 i x hx; rw [Array.getD_eq_getD_getElem?] at this; rw [Array.getElem?_toList] at hv; simpa [hv] using this⟩
  have hs' : SR K N ⟨putT σ.tm o.dst (.tuple []), σ.h, σ.n, []⟩ (a.put o.dst undef) := ⟨hs.next, hs.rel, hs.tr.put hd (VR.undef_ K), by rw [put_defers]; exact hdd⟩
  have ho' : all.toArray[i]? = some o := by simpa using ho
  have hg := stG_op (P := P) (b := ⟨f, .normal, none, []⟩) (a := a) (k := todo) (cs := cs) (w := K.w) (rest := l) ho' (wanted_of hs.tr hu) (.inl rfl)
  have hfin := fin_fr (l := l) (b := ⟨f, .normal, none, [{ target := .fn (.func g) cs2, args := #[] }]⟩) (a := a) (k := todo) ho' undef
  have hrun : (execOp a.eval o).run P K.w = .ok (.defer { target := .fn (.func g) cs2, args := #[] }) K.w := by
    unfold execOp; rw [hop]
    have hres : (resolve a.eval { callee := .value fo, args := #[], argTypes := ats } o.type).run P K.w = .ok { target := .fn (.func g) cs2, args := #[] } K.w := by
      unfold resolve
      simp only [hh, Deferred.ofValue]
      simp [Sem.run_pure]
    rw [run_bindv hres]; rfl
  refine .of_steps (.one (step_lone_go ?_)) (h K _ cs K0 H0 [{ target := .fn (.func g) cs2, args := #[] }] hst hs' ⟨cs2, rfl, hcap, hc⟩)
  rw [hg]
  simp only [stepG.apply, if_true, Sem.runT_eq, hrun]
  have e1 : ({ (⟨f, .normal, none, []⟩ : Fb).fr a (.inRegion all.toArray (i :: l) :: todo) with defers := { target := .fn (.func g) cs2, args := #[] } :: ((⟨f, .normal, none, []⟩ : Fb).fr a (.inRegion all.toArray (i :: l) :: todo)).defers } : Frame) = (⟨f, .normal, none, [{ target := .fn (.func g) cs2, args := #[] }]⟩ : Fb).fr a (.inRegion all.toArray (i :: l) :: todo) := by
    simp [Fb.fr, hdd]
  rw [e1, hfin]
  rfl
end
theorem ac_of_ft {P : Program} {f : FuncId} {fn : Func} {c : Code} {args : List AV} {H : Heap} {n : Nat} {Q : AR → Heap → Nat → Prop} (hf : P.funcs[f]? = some fn) (hb : fn.body = some c) (hN : args.length ≤ fn.ntmps)
    (h : FT P f fn.ntmps Q none [.code c] ⟨args0 args, H, n, []⟩) : AC P f args H n Q := by
  intro K vs hn hrel hvs cs
  obtain ⟨a, had, henter, htr⟩ := enter_ok hf hb hN hvs
  have hs : SR K fn.ntmps ⟨args0 args, H, n, []⟩ a := ⟨hn, hrel, htr, had⟩
  rw [henter]
  exact h K a cs K H [] (Step.refl K H) hs rfl
end Go.Lg


