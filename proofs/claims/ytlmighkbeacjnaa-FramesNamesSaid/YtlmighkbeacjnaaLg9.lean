/- Literals of structs, arrays and slices; make; append; what is only read from now on. -/
import Derived.Test.YtlmighkbeacjnaaLg8
import Derived.Laws.Tables
set_option linter.unusedVariables false
set_option linter.unusedSimpArgs false
set_option linter.unusedSectionVars false
namespace Go.Lg
open Go

def fillA (place : Nat → Option (Nat × Nat)) (cells : List AV) : List (Nat × AV) → Option (List AV)
  | [] => some cells
  | (i, x) :: rest =>
    match place i with
    | none => none
    | some (off, size) => if (cellsA x).length = size ∧ known x = true then (if off + (cellsA x).length ≤ cells.length then fillA place (wr cells off (cellsA x)) rest else none) else none
theorem VRs.set {K : Ctx} {xs : List AV} {vs : List Value} (h : VRs K xs vs) (i : Nat) {x : AV} {v : Value} (hv : VR K x v) : VRs K (xs.set i x) (vs.set i v) :=
  ⟨by simp [h.1], fun j y u hy hu => by
    rw [List.getElem?_set] at hy hu
    by_cases e : i = j
    · subst e
      rw [if_pos rfl] at hy hu
      split at hy
      · rename_i hlt; rw [if_pos (by rw [h.1]; exact hlt)] at hu; cases hy; cases hu; exact hv
      · cases hy
    · rw [if_neg e] at hy hu; exact h.2 j y u hy hu⟩
theorem wr_fold {K : Ctx} : ∀ (ys : List AV) (us : List Value) (xs : List AV) (arr : Array Value) (off j : Nat), VRs K xs arr.toList → VRs K ys us →
    VRs K (wr xs (off + j) ys) ((us.zipIdx j).foldl (fun (cs : Array Value) (p : Value × Nat) => cs.setIfInBounds (off + p.2) p.1) arr).toList
  | [], us, xs, arr, off, j, h, h2 => by
    have : us = [] := List.eq_nil_of_length_eq_zero h2.1
    subst this; exact h
  | y :: ys, us, xs, arr, off, j, h, h2 => by
    cases us with
    | nil => have := h2.1; simp at this
    | cons u us =>
      unfold wr
      rw [List.zipIdx_cons, List.foldl_cons, Nat.add_assoc]
      exact wr_fold ys us _ _ off (j + 1) (by simpa using h.set (off + j) h2.head) h2.tail
/-- Parts and their values. -/
def PR (K : Ctx) (ps : List (Nat × AV)) (qs : List (Nat × Value)) : Prop := qs.length = ps.length ∧ ∀ (i : Nat) p q, ps[i]? = some p → qs[i]? = some q → p.1 = q.1 ∧ VR K p.2 q.2
theorem fill_sound {K : Ctx} {place : Nat → Option (Nat × Nat)} : ∀ (ps : List (Nat × AV)) (qs : List (Nat × Value)) (xs : List AV) (arr : Array Value) (ys : List AV), VRs K xs arr.toList → PR K ps qs → fillA place xs ps = some ys →
    ∃ arr', Instr.fill place arr qs = some arr' ∧ VRs K ys arr'.toList
  | [], qs, xs, arr, ys, h, h2, hf => by
    have : qs = [] := List.eq_nil_of_length_eq_zero h2.1
    subst this; cases hf; exact ⟨arr, rfl, h⟩
  | (i, x) :: ps, qs, xs, arr, ys, h, h2, hf => by
    cases qs with
    | nil => have := h2.1; simp at this
    | cons q qs =>
      obtain ⟨i', v⟩ := q
      obtain ⟨e1, hv⟩ := h2.2 0 _ _ rfl rfl
      have e1 : i = i' := e1
      subst e1
      have hv : VR K x v := hv
      unfold fillA at hf
      unfold Instr.fill
      split at hf
      · cases hf
      · rename_i off size hp
        rw [hp]
        have hxl : arr.size = xs.length := by rw [← h.1]; simp
        split at hf
        · rename_i hszk
          obtain ⟨hsz, hk⟩ := hszk
          have hc := cells_VRs hk hv
          have hcl : v.cells.size = (cellsA x).length := by rw [← hc.1]; simp
          split at hf
          · rename_i hle
            simp only
            rw [if_neg (by simp only [Bool.or_eq_true, decide_eq_true_eq, not_or]; exact ⟨by simp [hcl, hsz], by omega⟩)]
            refine fill_sound ps qs _ _ ys ?_ ⟨by have := h2.1; simpa using this, fun j p q hp hq => h2.2 (j + 1) p q (by simpa using hp) (by simpa using hq)⟩ hf
            have := wr_fold (cellsA x) v.cells.toList xs arr off 0 h hc
            rw [Nat.add_zero] at this
            rw [← Array.foldl_toList]
            simpa [Array.toList_zipIdx] using this
          · cases hf
        · cases hf

def evp (tm : Nat → AV) : List (Nat × Operand) → Option (List (Nat × AV))
  | [] => some []
  | (i, x) :: r => match evo tm x, evp tm r with
    | some y, some ys => some ((i, y) :: ys)
    | _, _ => none
theorem evp_sound {K : Ctx} {N : Nat} {tm : Nat → AV} {a : Act} (hr : TR K N tm a.tmps) : ∀ {xs : List (Nat × Operand)} {ys : List (Nat × AV)}, evp tm xs = some ys → PR K ys (xs.map fun p => (p.1, a.eval p.2))
  | [], ys, h => by cases h; exact ⟨rfl, by simp⟩
  | (i, x) :: r, ys, h => by
    unfold evp at h
    split at h
    · rename_i y ys' h1 h2
      cases h
      have ih := evp_sound hr h2
      refine ⟨by have := ih.1; simpa using this, fun j p q hp hq => ?_⟩
      cases j with
      | zero => simp at hp hq; subst hp hq; exact ⟨rfl, evo_sound hr h1⟩
      | succ j => simp at hp hq; exact ih.2 j p q (by simpa using hp) (by simpa using hq)
    · cases h

/-- The places of a struct's fields. -/
def placesA (T : TT) : List Field → Option (List (Nat × Nat))
  | [] => some []
  | f :: fs => match T f.type, placesA T fs with
    | some i, some r => some ((f.offset, i.size) :: r)
    | _, _ => none
def buildA (T : TT) (t : TypeId) (ps : List (Nat × AV)) : Option (List AV) :=
  match T t with
  | some i => match i.desc with
    | .array _ e => match T e with
      | some ei => fillA (fun j => some (j * ei.size, ei.size)) i.zero ps
      | none => none
    | .struct fs => match placesA T fs.toList with
      | some places => fillA (places[·]?) i.zero ps
      | none => none
    | _ => none
  | none => none

section
variable {P : Program} {T : TT} (hT : TOK P T) {N : Nat} {o : Oper} {σ : St}
include hT
theorem places_sound : ∀ {fs : List Field} {r : List (Nat × Nat)}, placesA T fs = some r → fs.mapM (fun f => (P.info? f.type).map fun i => (f.offset, i.size)) = some r
  | [], r, h => by cases h; rfl
  | f :: fs, r, h => by
    unfold placesA at h
    split at h
    · rename_i i r' hi hr
      cases h
      obtain ⟨ti, z, h1, h2, _⟩ := hT.info f.type i hi
      simp [List.mapM_cons, h1, h2, places_sound hr]
    · cases h
theorem opv_build {t : TypeId} {parts : Array (Nat × Operand)} {ps : List (Nat × AV)} {ys : List AV} (hop : o.op = .build t parts) (hp : evp σ.tm parts.toList = some ps) (hy : buildA T t ps = some ys) : OpV P N o σ (.agg ys) σ.h σ.n := by
  refine opv_of fun K a hs => ?_
  have hps := evp_sound hs.tr hp
  have key : ∃ cells, P.built t (parts.map fun (i, x) => (i, a.eval x)).toList = some cells ∧ VRs K ys cells.toList := by
    have e1 : (parts.map fun (i, x) => (i, a.eval x)).toList = parts.toList.map fun p => (p.1, a.eval p.2) := by simp
    rw [e1]
    unfold buildA at hy
    split at hy
    · rename_i i hi
      obtain ⟨ti, z, h1, h2, h3, h4, h5, h6, h7⟩ := hT.info t i hi
      have hu := hT.und t i hi
      unfold Program.built
      split at hy
      · rename_i n e hd
        split at hy
        · rename_i ei he
          obtain ⟨tj, _, g1, g2, _⟩ := hT.info e ei he
          obtain ⟨arr', k1, k2⟩ := fill_sound (K := K) ps _ i.zero z.cells ys (h7 K) hps hy
          refine ⟨arr', ?_, k2⟩
          rw [hd] at hu
          simp only [h1, hu, h4, g1, g2]
          exact k1
        · cases hy
      · rename_i fs hd
        split at hy
        · rename_i places hpl
          obtain ⟨arr', k1, k2⟩ := fill_sound (K := K) ps _ i.zero z.cells ys (h7 K) hps hy
          refine ⟨arr', ?_, k2⟩
          rw [hd] at hu
          simp only [h1, hu, h4, places_sound hT hpl]
          simpa using k1
        · cases hy
      · cases hy
    · cases hy
  obtain ⟨cells, h1, h2⟩ := key
  refine ⟨.agg cells, ?_, VR.agg_.2 h2⟩
  unfold execOp; rw [hop]
  exact run_v (run_build K.w t _ cells h1)

/-! slices that are made -/
def repA (n : Nat) (zero : List AV) : List AV := (List.replicate n zero).flatten
omit hT in
theorem repA_length (n : Nat) (zero : List AV) : (repA n zero).length = n * zero.length := by
  unfold repA
  induction n with
  | zero => simp
  | succ n ih => rw [List.replicate_succ, List.flatten_cons, List.length_append, ih, Nat.succ_mul, Nat.add_comm]
omit hT in
theorem repA_get (n : Nat) (zero : List AV) (j : Nat) (hj : j < n * zero.length) : (repA n zero)[j]? = zero[j % zero.length]? := by
  induction n generalizing j with
  | zero => simp at hj
  | succ n ih =>
    have e : repA (n + 1) zero = zero ++ repA n zero := by unfold repA; rw [List.replicate_succ, List.flatten_cons]
    rw [e, List.getElem?_append]
    split
    · rename_i h; rw [Nat.mod_eq_of_lt h]
    · rename_i h
      have h2 : n * zero.length + zero.length = (n + 1) * zero.length := by rw [Nat.succ_mul]
      rw [ih _ (by omega), ← Nat.mod_eq_sub_mod (by omega)]
omit hT in
theorem repA_VRs {K : Ctx} {n : Nat} {zero : List AV} {z : Array Value} (h : VRs K zero z.toList) : VRs K (repA n zero) ((Array.range (n * z.size)).map (fun i => z[i % z.size]!)).toList := by
  have hz : z.size = zero.length := by rw [← h.1]; simp
  refine ⟨by simp [repA_length, hz], fun j x v hx hv => ?_⟩
  have hj : j < n * zero.length := by rw [← repA_length]; exact (List.getElem?_eq_some_iff.1 hx).1
  rw [repA_get n zero j hj] at hx
  simp [hz, hj] at hv
  have hlt : j % zero.length < zero.length := (List.getElem?_eq_some_iff.1 hx).1
  obtain ⟨u, hu, hr⟩ := h.get hx
  rw [Array.getElem?_toList] at hu
  have : z[j % zero.length]! = u := by simp [getElem!_def, hu]
  rw [this] at hv; subst hv; exact hr

omit hT in
/-- Own memory's slice over a new block. -/
theorem slice_new {K : Ctx} {o : Obj} {n c sz m : Nat} (cap : Option Nat) (hm : c * sz ≤ m) (hn : n ≤ c) (hcap : ∀ c0, cap = some c0 → c = c0) : VR (K.newOwn o m) (.slice K.next 0 n cap sz) (.slice (some ⟨K.w.heap.size, 0, none⟩) n c) := by
  have e1 : (K.newOwn o m).base K.next = K.w.heap.size := upd_same _ _ _
  have e2 : (K.newOwn o m).boff K.next = 0 := upd_same _ _ _
  have e3 : (K.newOwn o m).bsz K.next = m := upd_same _ _ _
  have := VR.slice (K := K.newOwn o m) (id := K.next) (off := 0) (len := n) (cap := cap) (sz := sz) (o := 0) (c := c) (Nat.lt_succ_self _) (by rw [e2]; simp) (by rw [e3]; simpa using fun _ => hm) hn hcap
  rw [e1] at this; exact this

/-- A slice's literal. -/
theorem r_buildSlice {t e : TypeId} {len : Nat} {parts : Array (Nat × Operand)} {ps : List (Nat × AV)} {ys : List AV} {ti ei : TI} {K : Ctx} {a : Act} (hs : SR K N σ a) (ht : T t = some ti) (hd : ti.desc = .slice e) (he : T e = some ei) (hz : 0 < len * ei.size) (hb : len * ei.size ≤ 16777216)
    (hzl : ei.zero.length = ei.size) (hp : evp σ.tm parts.toList = some ps) (hy : fillA (fun j => some (j * ei.size, ei.size)) (repA len ei.zero) ps = some ys) :
    ∃ cells : Array Value, (Instr.buildSlice t len (parts.map fun (i, x) => (i, a.eval x))).run P K.w = .ok (.slice (some ⟨K.w.heap.size, 0, none⟩) len len) { K.w with heap := K.w.heap.push (.cells cells e) } ∧ VRs K ys cells.toList := by
  have hps := evp_sound hs.tr hp
  have hu := r_und hT ht K.w
  rw [hd] at hu
  obtain ⟨z, hzr, hzs, _, hzv⟩ := r_zero hT he K.w
  have hrep := repA_VRs (n := len) (hzv K)
  rw [hzs] at hrep
  obtain ⟨cells, k1, k2⟩ := fill_sound (K := K) ps _ _ _ ys hrep hps hy
  refine ⟨cells, ?_, k2⟩
  unfold Instr.buildSlice
  rw [run_bindv hu]
  simp only
  rw [run_bindv (r_size hT he K.w), if_neg (by omega)]
  have hne : ¬ (len * ei.size = 0) := by omega
  simp only [hne, if_false]
  rw [run_bindv hzr, run_bindv (run_purev _ _)]
  have e2 : (Array.map (fun x => (x.fst, a.eval x.snd)) parts).toList = parts.toList.map fun p => (p.1, a.eval p.2) := by simp
  simp only [e2, hzs, k1]
  rfl
theorem opv_buildSlice {t e : TypeId} {len : Nat} {parts : Array (Nat × Operand)} {ps : List (Nat × AV)} {ys : List AV} {ti ei : TI} (hop : o.op = .buildSlice t len parts) (ht : T t = some ti) (hd : ti.desc = .slice e) (he : T e = some ei) (hz : 0 < len * ei.size) (hb : len * ei.size ≤ 16777216)
    (hzl : ei.zero.length = ei.size) (hp : evp σ.tm parts.toList = some ps) (hy : fillA (fun j => some (j * ei.size, ei.size)) (repA len ei.zero) ps = some ys) (hl : ys.length = len * ei.size) :
    OpV P N o σ (.slice σ.n 0 len (some len) ei.size) (upd σ.h σ.n (some (.cells ys e))) (σ.n + 1) := by
  intro K a hs
  obtain ⟨cells, h1, h2⟩ := r_buildSlice hT hs ht hd he hz hb hzl hp hy
  obtain ⟨g1, g2⟩ := newOwn_ok hs.rel (new_cells hs.rel (t := e) h2)
  have hcs : cells.size = len * ei.size := by rw [← hl, ← h2.1]; simp
  refine ⟨_, K.newOwn (.cells cells e) cells.size, .inl ?_, by rw [← hs.next]; rfl, by rw [← hs.next]; exact g1, by rw [← hs.next]; exact g2, by
    rw [← hs.next]; exact slice_new (some len) (by omega) (Nat.le_refl _) (by simp)⟩
  unfold execOp; rw [hop]; exact run_v h1
/-- The rows of cells. -/
def chunk (sz : Nat) : Nat → List AV → List (List AV)
  | 0, _ => []
  | n + 1, cs => cs.take sz :: chunk sz n (cs.drop sz)
omit hT in
theorem chunk_length (sz : Nat) : ∀ (n : Nat) (cs : List AV), (chunk sz n cs).length = n
  | 0, _ => rfl
  | n + 1, cs => by simp [chunk, chunk_length sz n]
omit hT in
theorem chunk_get (sz : Nat) : ∀ (n : Nat) (cs : List AV) (i : Nat) (r : List AV), (chunk sz n cs)[i]? = some r → r = (cs.drop (i * sz)).take sz
  | 0, _, _, _, h => by simp [chunk] at h
  | n + 1, cs, 0, r, h => by simp [chunk] at h; simp [h]
  | n + 1, cs, i + 1, r, h => by
    simp [chunk] at h
    have := chunk_get sz n _ i r h
    rw [this, List.drop_drop, Nat.succ_mul, Nat.add_comm]
omit hT in
theorem chunk_row {sz n : Nat} {cs : List AV} (hl : n * sz ≤ cs.length) : ∀ r, r ∈ chunk sz n cs → r.length = sz := by
  intro r hr
  obtain ⟨i, hi⟩ := List.mem_iff_getElem?.1 hr
  have hlt : i < n := by have := (List.getElem?_eq_some_iff.1 hi).1; rwa [chunk_length] at this
  rw [chunk_get sz n cs i r hi, List.length_take, List.length_drop]
  have : i * sz + sz ≤ n * sz := by rw [← Nat.succ_mul]; exact Nat.mul_le_mul_right _ hlt
  omega
omit hT in
theorem view_of_cells {K : Ctx} {cs : List AV} {vs : List Value} {blk off n c sz : Nat} (hv : VRs K cs vs) (hc : ∀ (j : Nat) v, vs[j]? = some v → K.w.cell? ⟨blk, off + j, none⟩ = some v) (hro : K.ro blk) (hl : n * sz ≤ cs.length) (hn : n ≤ c) :
    VR K (.view (chunk sz n cs)) (.slice (some ⟨blk, off, none⟩) n c) := by
  have := view_mk (K := K) (rows := chunk sz n cs) (a := some ⟨blk, off, none⟩) (c := c) (esz := sz) (by rw [chunk_length]; exact hn) (chunk_row hl) (fun _ => ⟨blk, off, rfl, hro, fun i r hi => ⟨(vs.drop (i * sz)).take sz, by
    rw [chunk_get sz n cs i r hi]; exact (hv.drop _).take _, fun j u hu => by
      rw [List.getElem?_take] at hu
      split at hu
      · rw [List.getElem?_drop] at hu
        rw [Nat.add_assoc]; exact hc _ u hu
      · cases hu⟩⟩)
  rw [chunk_length] at this; exact this
/-- A slice's literal that nobody writes. -/
theorem opv_buildSlice_ro {t e : TypeId} {len : Nat} {parts : Array (Nat × Operand)} {ps : List (Nat × AV)} {ys : List AV} {ti ei : TI} (hop : o.op = .buildSlice t len parts) (ht : T t = some ti) (hd : ti.desc = .slice e) (he : T e = some ei) (hz : 0 < len * ei.size) (hb : len * ei.size ≤ 16777216)
    (hzl : ei.zero.length = ei.size) (hp : evp σ.tm parts.toList = some ps) (hy : fillA (fun j => some (j * ei.size, ei.size)) (repA len ei.zero) ps = some ys) (hl : ys.length = len * ei.size) :
    OpV P N o σ (.view (chunk ei.size len ys)) σ.h σ.n := by
  intro K a hs
  obtain ⟨cells, h1, h2⟩ := r_buildSlice hT hs ht hd he hz hb hzl hp hy
  obtain ⟨g1, g2⟩ := newRo_ok hs.rel (.cells cells e)
  refine ⟨.slice (some ⟨K.w.heap.size, 0, none⟩) len len, K.newRo (.cells cells e), .inl ?_, hs.next, g1, g2, view_of_cells (vs := cells.toList) (h2.mono (newRo_ext hs.rel _)) (fun j v hj => ?_) (.inr rfl) (by omega) (Nat.le_refl _)⟩
  · unfold execOp; rw [hop]; exact run_v h1
  · rw [Array.getElem?_toList] at hj
    have e1 : (K.newRo (.cells cells e)).w.heap[K.w.heap.size]? = some (.cells cells e) := push_new K.w _
    simp only [World.cell?, e1, Option.isSome_none, Bool.false_eq_true, if_false, Nat.zero_add]
    exact hj
end
end Go.Lg
