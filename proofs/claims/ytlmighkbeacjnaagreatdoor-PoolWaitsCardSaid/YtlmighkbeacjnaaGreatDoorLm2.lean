/- append. -/
import Derived.Test.YtlmighkbeacjnaaGreatDoorLm1

set_option linter.unusedVariables false
set_option linter.unusedSimpArgs false
set_option linter.unusedSectionVars false
namespace Go.Lg
open Go

/-- Values written into an array from a place on. -/
def arrSet (arr : Array Value) : Nat → List Value → Array Value
  | _, [] => arr
  | off, v :: vs => arrSet (arr.setIfInBounds off v) (off + 1) vs
theorem arrSet_size : ∀ (vs : List Value) (arr : Array Value) (off : Nat), (arrSet arr off vs).size = arr.size
  | [], _, _ => rfl
  | v :: vs, arr, off => by unfold arrSet; rw [arrSet_size vs]; simp
theorem arrSet_lt : ∀ (vs : List Value) (arr : Array Value) (off j : Nat), j < off → (arrSet arr off vs)[j]? = arr[j]?
  | [], _, _, _, _ => rfl
  | v :: vs, arr, off, j, h => by
    unfold arrSet; rw [arrSet_lt vs _ _ _ (by omega), Array.getElem?_setIfInBounds_ne (by omega)]
theorem arrSet_at : ∀ (vs : List Value) (arr : Array Value) (off j : Nat), off + vs.length ≤ arr.size → j < vs.length → (arrSet arr off vs)[off + j]? = vs[j]?
  | [], _, _, _, _, h => by simp at h
  | v :: vs, arr, off, 0, h, _ => by
    simp only [List.length_cons] at h
    unfold arrSet
    rw [Nat.add_zero, arrSet_lt vs _ _ _ (by omega)]
    simp [show off < arr.size by omega]
  | v :: vs, arr, off, j + 1, h, hj => by
    simp only [List.length_cons] at h hj
    unfold arrSet
    rw [show off + (j + 1) = off + 1 + j by omega, arrSet_at vs _ _ _ (by simp; omega) (by omega)]
    simp
theorem store_raw {P : Program} {blk : Nat} {e : TypeId} {fr : Nat × Nat} : ∀ (vs : List Value) (w : World) (arr : Array Value) (off j : Nat), w.heap[blk]? = some (.cells arr e fr) → thawed arr fr → off + j + vs.length ≤ arr.size → (∀ v, v ∈ vs → scalV v = true) →
    ∃ w', (storeCells ⟨blk, off, none⟩ vs j).run P w = .ok () w' ∧ w'.heap[blk]? = some (.cells (arrSet arr (off + j) vs) e fr) ∧ Wrote w w' blk
  | [], w, arr, off, j, hb, _, _, _ => ⟨w, rfl, hb, ⟨rfl, fun _ _ => rfl, rfl, rfl, rfl⟩⟩
  | v :: vs, w, arr, off, j, hb, ht, hl, hs => by
    simp only [List.length_cons] at hl
    let w1 := w.setCell ⟨blk, off + j, none⟩ v
    have hb1 : w1.heap[blk]? = some (.cells (arr.setIfInBounds (off + j) v) e fr) := by
      simp only [w1, World.setCell, Array.getElem?_modify, if_true, hb]; rfl
    have hc : w.cell? ⟨blk, off + j, none⟩ = some (arr[off + j]'(by omega)) := by simp [World.cell?, hb, show off + j < arr.size by omega]
    have hf : w.frozen? ⟨blk, off + j, none⟩ = false := by simp only [World.frozen?, hb]; exact ht _ (by omega)
    have h1 : (store ⟨blk, off + j, none⟩ v).run P w = .ok () w1 := by
      have hsv := hs v (by simp)
      unfold store
      cases v <;> first | (simp only [Sem.run, hc, hf]; rfl) | (simp [scalV] at hsv)
    obtain ⟨w', h2, h3, h4⟩ := store_raw vs w1 _ off (j + 1) hb1 (fun i hi => ht i (by simpa using hi)) (by simp; omega) (fun u hu => hs u (by simp [hu]))
    refine ⟨w', ?_, h3, ⟨by rw [h4.size]; simp [w1, World.setCell], fun b hbn => ?_, h4.os, h4.tape, h4.output⟩⟩
    · unfold storeCells
      rw [add_plain, run_bindv h1]
      exact h2
    · rw [h4.same b hbn]
      simp only [w1, World.setCell, Array.getElem?_modify]
      rw [if_neg (fun e => hbn e.symm)]

theorem flat_cells {K : Ctx} {blk esz : Nat} : ∀ (rows : List (List AV)) (off : Nat), (∀ r, r ∈ rows → r.length = esz) → (∀ (i : Nat) r, rows[i]? = some r → ∃ vs, VRs K r vs ∧ ∀ (j : Nat) u, vs[j]? = some u → K.w.cell? ⟨blk, off + i * esz + j, none⟩ = some u) →
    ∃ vs, VRs K rows.flatten vs ∧ ∀ (j : Nat) u, vs[j]? = some u → K.w.cell? ⟨blk, off + j, none⟩ = some u
  | [], off, _, _ => ⟨[], VRs.nil K, by simp⟩
  | r :: rows, off, hl, h => by
    obtain ⟨vs, h1, h2⟩ := h 0 r rfl
    obtain ⟨us, g1, g2⟩ := flat_cells rows (off + esz) (fun r hr => hl r (by simp [hr])) (fun i r hr => by
      obtain ⟨vs, k1, k2⟩ := h (i + 1) r (by simpa using hr)
      exact ⟨vs, k1, fun j u hu => by have := k2 j u hu; rw [Nat.succ_mul] at this; rw [← this]; congr 2; omega⟩)
    have hlen : vs.length = esz := by rw [h1.1]; exact hl r (by simp)
    refine ⟨vs ++ us, by rw [List.flatten_cons]; exact h1.append g1, fun j u hu => ?_⟩
    rw [List.getElem?_append] at hu
    split at hu
    · have := h2 j u hu; simpa using this
    · have := g2 _ u hu
      rw [hlen] at this
      rw [← this]; congr 2; omega

/-- What is appended: so many elements, these cells. -/
def SrcA (h : Heap) (sz : Nat) : AV → Nat → List AV → Prop
  | .view rows, k, news => k = rows.length ∧ news = rows.flatten ∧ ∀ r, r ∈ rows → r.length = sz
  | .empty, k, news => k = 0 ∧ news = []
  | .slice id off len _ sz', k, news => sz' = sz ∧ k = len ∧ ∃ cs e, h id = some (.cells cs e) ∧ off + len * sz ≤ cs.length ∧ news = (cs.drop off).take (len * sz)
  | .str s, k, news => sz = 1 ∧ k = s.length ∧ news = s.map fun b => .int .u8 b.toNat
  | _, _, _ => False
theorem SrcA.length {h : Heap} {sz : Nat} {x : AV} {k : Nat} {news : List AV} (hs : SrcA h sz x k news) : news.length = k * sz := by
  cases x <;> simp only [SrcA] at hs
  case view rows =>
    obtain ⟨rfl, rfl, hl⟩ := hs
    induction rows with
    | nil => simp
    | cons r rows ih => rw [List.flatten_cons, List.length_append, hl r (by simp), List.length_cons, Nat.succ_mul, ih (fun r hr => hl r (by simp [hr])), Nat.add_comm]
  case empty => obtain ⟨rfl, rfl⟩ := hs; simp
  case slice => obtain ⟨rfl, rfl, cs, e, _, hl, rfl⟩ := hs; simp; omega
  case str => obtain ⟨rfl, rfl, rfl⟩ := hs; simp
theorem src_run {P : Program} {K : Ctx} {H : Heap} (hr : Rel K H) {sz k : Nat} {x : AV} {v : Value} {news : List AV} (hs : SrcA H sz x k news) (hv : VR K x v) :
    (Builtin.lenOf v).run P K.w = .ok k K.w ∧ ∃ arr : Array Value, (Builtin.firstCells sz k v).run P K.w = .ok arr K.w ∧ VRs K news arr.toList := by
  cases x <;> simp only [SrcA] at hs
  case view rows =>
    obtain ⟨rfl, rfl, hl⟩ := hs
    obtain ⟨a, c, esz, rfl, _, hl2, hcell⟩ := view_cells hv
    refine ⟨rfl, ?_⟩
    by_cases hp : 0 < rows.length
    · obtain ⟨blk, off, rfl, hro, hcells⟩ := hcell hp
      have he : esz = sz := by
        have h0 : rows[0]? = some (rows[0]'hp) := List.getElem?_eq_getElem hp
        rw [← hl2 _ (List.mem_of_getElem? h0)]; exact hl _ (List.mem_of_getElem? h0)
      subst he
      obtain ⟨vs, h1, h2⟩ := flat_cells rows off hl hcells
      have hlen : vs.length = rows.length * esz := by rw [h1.1]; exact SrcA.length (h := H) (x := .view rows) ⟨rfl, rfl, hl⟩
      have := run_loadCells_list (P := P) (w := K.w) ⟨blk, off, none⟩ vs (fun j v hj => by rw [add_plain]; exact h2 j v hj)
      rw [hlen] at this
      exact ⟨_, this, by simpa using h1⟩
    · have e0 : rows = [] := List.eq_nil_of_length_eq_zero (by omega)
      subst e0
      cases a with
      | none => exact ⟨#[], rfl, VRs.nil K⟩
      | some a => exact ⟨#[], by simp [Builtin.firstCells, loadCells, loadCellsFrom], VRs.nil K⟩
  case empty =>
    obtain ⟨rfl, rfl⟩ := hs
    cases hv with
    | empty a =>
      refine ⟨rfl, #[], ?_, VRs.nil K⟩
      cases a with
      | none => rfl
      | some a => simp [Builtin.firstCells, loadCells, loadCellsFrom]
  case slice id off len cap sz' =>
    obtain ⟨rfl, rfl, cs, e, hH, hl, rfl⟩ := hs
    cases hv with
    | @slice _ _ _ _ _ o' c hid ho hc hl' hcap =>
      refine ⟨rfl, ?_⟩
      by_cases hz : k * sz' = 0
      · exact ⟨#[], by simp [Builtin.firstCells, hz, loadCells, loadCellsFrom], by rw [hz]; exact VRs.nil K⟩
      · have hk : 0 < k := Nat.pos_of_ne_zero (fun e => hz (by rw [e]; simp))
        rw [ho (by omega)]
        obtain ⟨vs, h1, h2⟩ := own_cells (hr.br id _ hH) off
        have hlen : (vs.take (k * sz')).length = k * sz' := by rw [List.length_take, h1.1]; simp; omega
        have := run_loadCells_list (P := P) (w := K.w) ⟨K.base id, K.boff id + off, none⟩ (vs.take (k * sz')) (fun j v hj => by
          rw [add_plain]; rw [List.getElem?_take] at hj
          split at hj
          · exact h2 j v hj
          · cases hj)
        rw [hlen] at this
        exact ⟨_, this, by simpa using h1.take _⟩
  case str s =>
    obtain ⟨rfl, rfl, rfl⟩ := hs
    obtain ⟨b, rfl, rfl⟩ := hv.str_inv
    have e0 : b.data.toList.length = b.size := Array.length_toList
    have e1 : (b.extract 0 b.data.toList.length) = b := by rw [e0]; simp
    refine ⟨by rw [e0]; rfl, _, rfl, ⟨?_, fun i x v hx hv => ?_⟩⟩
    · rw [e1]; simp
    · rw [e1] at hv
      simp only [List.getElem?_map, Option.map_eq_some_iff] at hx
      obtain ⟨c, hc, rfl⟩ := hx
      rw [Array.toList_map, List.getElem?_map, hc] at hv
      cases hv
      exact .int _ _

theorem growBy_le (m : Nat) : ∀ (r c : Nat), c ≤ 2 * m + 768 → Builtin.growBy m r c ≤ 2 * m + 768
  | 0, c, h => h
  | r + 1, c, h => by
    unfold Builtin.growBy
    split
    · exact h
    · exact growBy_le m r _ (by omega)
theorem nextslicecap_le {m c : Nat} (h : c < m) : Builtin.nextslicecap m c ≤ 2 * m + 768 := by
  unfold Builtin.nextslicecap
  split
  · omega
  · split
    · omega
    · exact growBy_le m 4 c (by omega)
theorem run_askRoom (P : Program) (n : Nat) (w : World) : (askRoom n).run P w = .ok () w := by
  unfold askRoom
  split <;> rfl

def notInt : TypeDesc → Bool
  | .int _ => false
  | _ => true
theorem new_cells' {K : Ctx} {H : Heap} (hr : Rel K H) {arr : Array Value} {t : TypeId} {cs : List AV} {vs more : List Value} (ha : arr.toList = vs ++ more) (hv : VRs K cs vs) : BR (K.newOwn (.cells arr t) arr.size) K.next (.cells cs t) := by
  have hE := newOwn_ext hr (.cells arr t) arr.size
  have hz : arr.size = vs.length + more.length := by rw [← Array.length_toList, ha]; simp
  refine ⟨arr, (0, 0), ?_, thawed0 _, ?_, ?_, fun j x hx => ?_⟩
  · show (K.w.heap.push _)[upd K.base K.next _ K.next]? = _; rw [upd_same]; simp
  · show _ = upd K.bsz K.next _ K.next; rw [upd_same]
  · show upd K.boff K.next 0 K.next + _ ≤ _; rw [upd_same]; have := hv.1; omega
  · obtain ⟨v, h1, h2⟩ := hv.get hx
    refine ⟨v, ?_, h2.mono hE⟩
    show arr[upd K.boff K.next 0 K.next + j]? = _
    rw [upd_same, Nat.zero_add, ← Array.getElem?_toList, ha, List.getElem?_append_left (List.getElem?_eq_some_iff.1 h1).1]
    exact h1
theorem upd_comm {α : Type} (f : Nat → α) {i j : Nat} (h : i ≠ j) (x y : α) : upd (upd f i x) j y = upd (upd f j y) i x := by
  funext k; unfold upd
  by_cases h1 : k = j
  · subst h1
    rw [if_pos rfl, if_neg (fun e => h e.symm), if_pos rfl]
  · rw [if_neg h1]
    by_cases h2 : k = i
    · rw [if_pos h2, if_pos h2]
    · rw [if_neg h2, if_neg h2, if_neg h1]

section
variable {P : Program} {T : TT} (hT : TOK P T) {N : Nat} {o : Oper} {σ : St}
include hT
/-- Growth: a new block with what was there and what is new. -/
theorem grow_run {t t2 ty e : TypeId} {ti ei i2 : TI} {K : Ctx} {H : Heap} (hr : Rel K H) (ht : T t = some ti) (hd : ti.desc = .slice e) (he : T e = some ei) (ht2 : T t2 = some i2) (hn2 : notInt i2.desc = true)
    {a : Option Addr} {len c k : Nat} {olds news : List AV} {src : AV} {y : Value} (hc : c < len + k) (hsm : (2 * (len + k) + 768) * ei.bytes ≤ 281474976710656) (hsm2 : len + k ≤ 4611686018427387904) (hb : 0 < ei.bytes)
    (hold : ∀ K', Ext K K' → (∀ b, b < K.w.heap.size → K'.w.heap[b]? = K.w.heap[b]?) → ∃ arr : Array Value, (Builtin.firstCells ei.size len (.slice a len c)).run P K'.w = .ok arr K'.w ∧ VRs K' olds arr.toList) (holdl : olds.length = len * ei.size)
    (hsrc : SrcA H ei.size src k news) (hy : VR K src y) :
    ∃ K', ∃ c', (Builtin.append_ #[t, t2] ty #[.slice a len c, y]).run P K.w = .ok (.slice (some ⟨K.w.heap.size, 0, none⟩) (len + k) c') K'.w ∧ K'.next = K.next + 1 ∧
      Rel K' (upd H K.next (some (.cells (olds ++ news) e))) ∧ Step K H K' (upd H K.next (some (.cells (olds ++ news) e))) ∧ VR K' (.slice K.next 0 (len + k) none ei.size) (.slice (some ⟨K.w.heap.size, 0, none⟩) (len + k) c') := by
  have hu := r_und hT ht K.w
  rw [hd] at hu
  obtain ⟨tj, z, g1, g2, g3, g4, g5, g6, g7⟩ := hT.info e ei he
  have hu2 := r_und hT ht2 K.w
  let q : Question := .appendCap (len + k) c e
  let newCap := q.cut (K.w.tape K.w.drawn q)
  have hnc : len + k ≤ newCap := by show len + k ≤ (len + k) + _; omega
  let w1 : World := { K.w with drawn := K.w.drawn + 1 }
  let K1 := K.at_ w1
  obtain ⟨hr1, hst1, hE1⟩ := drew_ok hr (K.w.drawn + 1)
  obtain ⟨oarr, ho1, ho2⟩ := hold K1 hE1 (fun _ _ => rfl)
  obtain ⟨_, narr, hn1, hn3⟩ := src_run (P := P) hr1 hsrc (hy.mono hE1)
  obtain ⟨hlen0, _⟩ := src_run (P := P) hr hsrc hy
  let rest := Builtin.zeroCells z.cells (newCap - (len + k))
  let arr := oarr ++ narr ++ rest
  have hl1 : oarr.size = len * ei.size := by rw [← holdl, ← ho2.1]; simp
  have hl2 : narr.size = k * ei.size := by rw [← hsrc.length, ← hn3.1]; simp
  have hl3 : rest.size = (newCap - (len + k)) * ei.size := by simp [rest, Builtin.zeroCells, g5]
  have hlarr : newCap * ei.size ≤ arr.size := by
    have : newCap * ei.size = len * ei.size + k * ei.size + (newCap - (len + k)) * ei.size := by rw [← Nat.add_mul, ← Nat.add_mul]; congr 1; omega
    simp only [arr, Array.size_append]; omega
  have hbr := new_cells' (K := K1) hr1 (arr := arr) (t := e) (cs := olds ++ news) (vs := oarr.toList ++ narr.toList) (more := rest.toList) (by simp [arr]) (ho2.append hn3)
  obtain ⟨k1, k2⟩ := newOwn_ok hr1 hbr
  refine ⟨K1.newOwn (.cells arr e) arr.size, newCap, ?_, rfl, k1, hst1.trans k2, slice_new (K := K1) none hlarr hnc (by simp)⟩
  unfold Builtin.append_
  simp only [List.getElem?_toArray, List.getElem?_cons_zero, List.getElem?_cons_succ]
  rw [run_bindv hu]
  simp only
  have hsz := r_size hT he
  rw [run_bindv (hsz K.w)]
  rw [run_bindv (r_und hT ht2 K.w)]
  refine (run_bindv (a := false) (w' := K.w) ?hzz).trans ?_
  case hzz => cases hh : i2.desc <;> first | rfl | (rw [hh] at hn2; cases hn2)
  simp only [Bool.false_eq_true, if_false, Bool.not_false, if_true]
  rw [run_bindv hlen0]
  rw [if_neg (by omega)]
  have hti : ∀ w, (typeInfo e).run P w = .ok tj w := fun w => by simp [typeInfo, program, Sem.run, g1]
  rw [run_bindv (hti K.w)]
  have hmax : ¬ (((len + k : Nat) : Int) > IntKind.i64.max ∧ (False ∨ tj.bytes = 0)) := by
    rintro ⟨_, h | h⟩
    · exact h
    · omega
  rw [if_neg hmax, run_bindv (hti K.w)]
  have hcap : ¬ (Builtin.nextslicecap (len + k) c * tj.bytes > 2 ^ 48) := by
    have h1 := nextslicecap_le hc
    have h2 : Builtin.nextslicecap (len + k) c * tj.bytes ≤ (2 * (len + k) + 768) * ei.bytes := by rw [g3]; exact Nat.mul_le_mul_right _ h1
    omega
  rw [if_neg hcap]
  have hch : (choose q).run P K.w = .ok newCap w1 := by
    simp only [choose, Sem.run, q, Question.forced, Bool.false_eq_true, if_false]; rfl
  have ho1' : (Builtin.firstCells ei.size len (.slice a len c)).run P w1 = .ok oarr w1 := ho1
  have hn1' : (Builtin.firstCells ei.size k y).run P w1 = .ok narr w1 := hn1
  rw [run_bindv hch, run_bindv (hti w1), run_bindv (run_askRoom P _ w1), run_bindv ho1', run_bindv hn1']
  have hzv : (zeroValue e).run P w1 = .ok z w1 := by simp [zeroValue, typeInfo, program, Sem.run, g1, g4]
  rw [run_bindv hzv]
  rfl
/-- append to nothing that has room. -/
theorem opv_append_new {t t2 e : TypeId} {x z : Operand} {ti ei i2 : TI} {k : Nat} {src : AV} {news : List AV} (hop : o.op = .call { callee := .builtin .append, args := #[x, z], argTypes := #[t, t2] }) (ht : T t = some ti) (hd : ti.desc = .slice e) (he : T e = some ei) (ht2 : T t2 = some i2) (hn2 : notInt i2.desc = true)
    (hx : evo σ.tm x = some .empty) (hz : evo σ.tm z = some src) (hsrc : SrcA σ.h ei.size src k news) (hk : 0 < k) (hsm : (2 * k + 768) * ei.bytes ≤ 281474976710656) (hsm2 : k ≤ 4611686018427387904) (hb : 0 < ei.bytes) :
    OpV P N o σ (.slice σ.n 0 k none ei.size) (upd σ.h σ.n (some (.cells news e))) (σ.n + 1) := by
  intro K a hs
  have hvx := evo_sound hs.tr hx
  have hvz := evo_sound hs.tr hz
  generalize hhx : a.eval x = vx at hvx
  cases hvx with
  | empty ad =>
    obtain ⟨K', c', h1, h2, h3, h4, h5⟩ := grow_run hT (ty := o.type) hs.rel ht hd he ht2 hn2 (a := ad) (len := 0) (c := 0) (olds := []) (by omega) (by simpa using hsm) (by omega) hb (fun K' _ _ => ⟨#[], by
      cases ad with
      | none => rfl
      | some ad => simp [Builtin.firstCells, loadCells, loadCellsFrom], VRs.nil K'⟩) (by simp) hsrc hvz
    simp only [Nat.zero_add, List.nil_append] at h1 h3 h4 h5
    rw [← hs.next]
    refine ⟨_, K', .inl ?_, h2, h3, h4, h5⟩
    unfold execOp; rw [hop]
    simp only [resolve, List.map_toArray, List.map_cons, List.map_nil]
    rw [run_bindv (run_purev _ _)]
    unfold invoke
    simp only [builtin]
    rw [hhx, run_bindv h1]; rfl
/-- append to the end of own memory. -/
theorem opv_append_own {t t2 e : TypeId} {x z : Operand} {ti ei i2 : TI} {k id off len : Nat} {cs : List AV} {src : AV} {news : List AV} (hop : o.op = .call { callee := .builtin .append, args := #[x, z], argTypes := #[t, t2] }) (ht : T t = some ti) (hd : ti.desc = .slice e) (he : T e = some ei) (ht2 : T t2 = some i2) (hn2 : notInt i2.desc = true)
    (hx : evo σ.tm x = some (.slice id off len none ei.size)) (hz : evo σ.tm z = some src) (hH : σ.h id = some (.cells cs e)) (hl : off + len * ei.size = cs.length) (hsrc : SrcA σ.h ei.size src k news) (hsc : ∀ c, c ∈ news → scalA c = true)
    (hsm : (2 * (len + k) + 768) * ei.bytes ≤ 281474976710656) (hsm2 : len + k ≤ 4611686018427387904) (hb : 0 < ei.bytes) :
    OpV P N o σ (.slice σ.n 0 (len + k) none ei.size) (upd (upd σ.h id none) σ.n (some (.cells (cs.drop off ++ news) e))) (σ.n + 1) := by
  intro K a hs
  have hvx := evo_sound hs.tr hx
  have hvz := evo_sound hs.tr hz
  have hid0 : σ.h id ≠ none := by rw [hH]; simp
  have hidlt := hs.rel.lt id hid0
  generalize hhx : a.eval x = vx at hvx
  cases hvx with
  | @slice _ _ _ _ _ o' c hid ho hc hl' hcap =>
    have hexec : ∀ {v : Value} {w' : World}, (Builtin.append_ #[t, t2] o.type #[.slice (some ⟨K.base id, o', none⟩) len c, a.eval z]).run P K.w = .ok v w' → (execOp a.eval o).run P K.w = .ok (.value v) w' := by
      intro v w' h1
      unfold execOp; rw [hop]
      simp only [resolve, List.map_toArray, List.map_cons, List.map_nil]
      rw [run_bindv (run_purev _ _)]
      unfold invoke
      simp only [builtin]
      rw [hhx, run_bindv h1]; rfl
    rw [← hs.next]
    by_cases hroom : len + k ≤ c
    · -- there is room
      obtain ⟨arr, fr, hblk, hth, hz1, hz2, hcs⟩ := hs.rel.br id _ hH
      obtain ⟨hlen0, narr, hn1, hn3⟩ := src_run (P := P) hs.rel hsrc hvz
      have hnl : narr.size = k * ei.size := by rw [← hsrc.length, ← hn3.1]; simp
      have hnsc : ∀ v, v ∈ narr.toList → scalV v = true := by
        intro v hv
        obtain ⟨i, hi⟩ := List.mem_iff_getElem?.1 hv
        have hlt : i < news.length := by rw [← hn3.1]; exact (List.getElem?_eq_some_iff.1 hi).1
        have hx := List.getElem?_eq_getElem hlt
        exact scal_of (hn3.2 i _ v hx hi) (hsc _ (List.mem_of_getElem? hx))
      have hstore : ∃ w', (storeCells ((⟨K.base id, o', none⟩ : Addr).add (len * ei.size)) narr.toList).run P K.w = .ok () w' ∧ w'.heap[K.base id]? = some (.cells (arrSet arr (K.boff id + cs.length) narr.toList) e fr) ∧ Wrote K.w w' (K.base id) := by
        rw [add_plain]
        by_cases hc0 : 0 < c
        · have e1 : o' + len * ei.size = K.boff id + cs.length := by rw [ho hc0, ← hl]; omega
          have hsp := hc hc0
          have h5 : (len + k) * ei.size ≤ c * ei.size := Nat.mul_le_mul_right _ hroom
          rw [Nat.add_mul] at h5
          have := store_raw (P := P) narr.toList K.w arr (o' + len * ei.size) 0 hblk hth (by simp [hnl]; omega) hnsc
          simp only [Nat.add_zero, e1] at this ⊢
          exact this
        · have hk0 : k = 0 := by omega
          have : narr.toList = [] := by have : narr.size = 0 := by rw [hnl, hk0]; simp
                                        exact List.eq_nil_of_length_eq_zero (by simpa using this)
          rw [this]
          exact ⟨K.w, rfl, hblk, ⟨rfl, fun _ _ => rfl, rfl, rfl, rfl⟩⟩
      obtain ⟨w', hst, hb', hw⟩ := hstore
      have hE := renamed_ext (off := off) hs.rel hid0 hw
      have e1 : (K.renamed w' id off).base K.next = K.base id := upd_same _ _ _
      have e2 : (K.renamed w' id off).boff K.next = K.boff id + off := upd_same _ _ _
      have e3 : (K.renamed w' id off).bsz K.next = K.bsz id := upd_same _ _ _
      have hfit : K.boff id + cs.length + narr.size ≤ arr.size := by
        by_cases hc0 : 0 < c
        · have hsp := hc hc0
          rw [ho hc0] at hsp
          have h5 : (len + k) * ei.size ≤ c * ei.size := Nat.mul_le_mul_right _ hroom
          rw [Nat.add_mul] at h5
          rw [hnl]; omega
        · have hk0 : k = 0 := by omega
          rw [hnl, hk0]; simp; omega
      have hbr : BR (K.renamed w' id off) K.next (.cells (cs.drop off ++ news) e) := by
        refine ⟨_, fr, by rw [e1]; exact hb', fun j hj => hth j (by rw [arrSet_size] at hj; exact hj), by rw [e3, arrSet_size]; exact hz1, ?_, fun j y hy => ?_⟩
        · rw [e2, arrSet_size, List.length_append, List.length_drop, ← hn3.1]; simp; omega
        · rw [e2]
          rw [List.getElem?_append] at hy
          split at hy
          · rename_i hj
            rw [List.length_drop] at hj
            rw [List.getElem?_drop] at hy
            obtain ⟨u, hu, hru⟩ := hcs _ y hy
            refine ⟨u, ?_, hru.mono hE⟩
            rw [arrSet_lt _ _ _ _ (by omega), Nat.add_assoc]; exact hu
          · rename_i hj
            rw [List.length_drop] at hj hy
            obtain ⟨u, hu, hru⟩ := hn3.get hy
            refine ⟨u, ?_, hru.mono hE⟩
            have hlt := (List.getElem?_eq_some_iff.1 hu).1
            have := arrSet_at narr.toList arr (K.boff id + cs.length) (j - (cs.length - off)) (by simpa using hfit) hlt
            rw [← hu, ← this]
            congr 1; omega
      obtain ⟨k1, k2⟩ := renamed_ok hs.rel hid0 hw hbr
      refine ⟨.slice (some ⟨K.base id, o', none⟩) (len + k) c, K.renamed w' id off, .inl (hexec ?_), rfl, k1, k2, ?_⟩
      · have hu := r_und hT ht K.w
        rw [hd] at hu
        unfold Builtin.append_
        simp only [List.getElem?_toArray, List.getElem?_cons_zero, List.getElem?_cons_succ]
        rw [run_bindv hu]
        simp only
        rw [run_bindv (r_size hT he K.w)]
        rw [run_bindv (r_und hT ht2 K.w)]
        refine (run_bindv (a := false) (w' := K.w) ?hzz).trans ?_
        case hzz => cases hh : i2.desc <;> first | rfl | (rw [hh] at hn2; cases hn2)
        simp only [Bool.false_eq_true, if_false, Bool.not_false, if_true]
        rw [run_bindv hlen0, if_pos hroom, run_bindv hn1]
        rw [run_bindv hst]
        rfl
      · have := VR.slice (K := K.renamed w' id off) (id := K.next) (off := 0) (len := len + k) (cap := none) (sz := ei.size) (o := o') (c := c) (Nat.lt_succ_self _) (by rw [e2]; simpa using ho) (by rw [e3]; exact hc) hroom (by simp)
        rw [e1] at this; exact this
    · -- it grows
      obtain ⟨K', c', h1, h2, h3, h4, h5⟩ := grow_run hT (ty := o.type) hs.rel ht hd he ht2 hn2 (a := some ⟨K.base id, o', none⟩) (len := len) (c := c) (olds := cs.drop off) (by omega) hsm hsm2 hb (fun K' hE hsame => by
        by_cases hz : len * ei.size = 0
        · refine ⟨#[], by simp [Builtin.firstCells, hz, loadCells, loadCellsFrom], ?_⟩
          have : cs.drop off = [] := List.drop_eq_nil_of_le (by omega)
          rw [this]; exact VRs.nil K'
        · have hp : 0 < len := Nat.pos_of_ne_zero (fun e => hz (by rw [e]; simp))
          rw [ho (by omega)]
          obtain ⟨m1, m2, m3⟩ := hE.mu id hidlt
          have hbr := (hs.rel.br id _ hH).mono hE hidlt (hsame _ (hs.rel.size_lt hid0))
          obtain ⟨vs, g1, g2⟩ := own_cells hbr off
          rw [m1, m2] at g2
          have hlen : vs.length = len * ei.size := by rw [g1.1, List.length_drop]; omega
          have := run_loadCells_list (P := P) (w := K'.w) ⟨K.base id, K.boff id + off, none⟩ vs (fun j v hj => by rw [add_plain]; exact g2 j v hj)
          rw [hlen] at this
          exact ⟨_, this, by simpa using g1⟩) (by rw [List.length_drop]; omega) hsrc hvz
      obtain ⟨k1, k2⟩ := kill_ok h3 id
      rw [upd_comm _ (by omega)] at k1 k2
      exact ⟨_, K', .inl (hexec h1), h2, k1, h4.trans k2, h5⟩
end
end Go.Lg

/- Calls: direct ones, of function values; functions that only compute; ghost steps on slots; results. -/
set_option linter.unusedVariables false
set_option linter.unusedSimpArgs false
set_option linter.unusedSectionVars false
namespace Go.Lg
open Go

def Callable (P : Program) (f : FuncId) : Prop := ∃ fn, P.funcs[f]? = some fn ∧ (fn.name == "runtime.NumGoroutine") = false ∧ fn.body.isSome = true

/-- A value that tells of no own memory. -/
inductive Pur : AV → Prop
  | bool (b : Bool) : Pur (.bool b)
  | int (k : IntKind) (n : Int) : Pur (.int k n)
  | str (s : List UInt8) : Pur (.str s)
  | view {rows : List (List AV)} (h : ∀ r, r ∈ rows → ∀ x, x ∈ r → Pur x) : Pur (.view rows)
  | empty : Pur .empty
  | vptr {cells : List AV} (h : ∀ x, x ∈ cells → Pur x) : Pur (.vptr cells)
  | nilptr : Pur .nilptr
  | func {fn : Fn} {a b : List AV} (h1 : ∀ x, x ∈ a → Pur x) (h2 : ∀ x, x ∈ b → Pur x) : Pur (.func fn a b)
  | nilFunc : Pur .nilFunc
  | iface {t : TypeId} {x : AV} (h : Pur x) : Pur (.iface t x)
  | nilIface : Pur .nilIface
  | agg {cs : List AV} (h : ∀ x, x ∈ cs → Pur x) : Pur (.agg cs)
  | tuple {cs : List AV} (h : ∀ x, x ∈ cs → Pur x) : Pur (.tuple cs)
  | any : Pur .any

theorem VR.pur {K K' : Ctx} (hro : ∀ b, K.ro b → K'.ro b) (hs : ∀ b, K.ro b → K'.w.heap[b]? = K.w.heap[b]?) {x : AV} {v : Value} (h : VR K x v) (hp : Pur x) : VR K' x v := by
  induction h with
  | bool b => exact .bool b
  | int k n => exact .int k n
  | str s => exact .str s
  | @view rows a c esz f hc hl ha hv ih =>
    cases hp with
    | view hp =>
      refine .view f hc hl (fun hpos => ?_) (fun i j r x h1 h2 => ih i j r x h1 h2 (hp r (List.mem_of_getElem? h1) x (List.mem_of_getElem? h2)))
      obtain ⟨blk, off, rfl, hr, hcell⟩ := ha hpos
      exact ⟨blk, off, rfl, hro _ hr, fun i j hi hj => by rw [cell_of_block (hs _ hr)]; exact hcell i j hi hj⟩
  | empty a => exact .empty a
  | vptr f hr hc hv ih =>
    cases hp with
    | vptr hp => exact .vptr f (hro _ hr) (fun j hj => by rw [cell_of_block (hs _ hr)]; exact hc j hj) (fun j x h1 => ih j x h1 (hp x (List.mem_of_getElem? h1)))
  | ptr h => cases hp
  | nilptr => exact .nilptr
  | slice => cases hp
  | map => cases hp
  | func hn h1 h2 _ _ ih1 ih2 =>
    cases hp with
    | func p1 p2 => exact .func hn h1 h2 (fun i x hx => ih1 i x hx (p1 x (List.mem_of_getElem? hx))) (fun i x hx => ih2 i x hx (p2 x (List.mem_of_getElem? hx)))
  | yieldf => cases hp
  | nilFunc => exact .nilFunc
  | iface _ ih => cases hp with | iface p => exact .iface (ih p)
  | nilIface => exact .nilIface
  | agg h1 _ ih => cases hp with | agg p => exact .agg h1 (fun i x hx => ih i x hx (p x (List.mem_of_getElem? hx)))
  | tuple h1 _ ih => cases hp with | tuple p => exact .tuple h1 (fun i x hx => ih i x hx (p x (List.mem_of_getElem? hx)))
  | any v => exact .any v

def noHeap : Heap := fun _ => none
theorem rel_none {K : Ctx} {H : Heap} (hr : Rel K H) : Rel K noHeap where
  lt := fun _ h => absurd rfl h
  nro := fun _ h => absurd rfl h
  br := fun _ _ h => by simp [noHeap] at h
  inj := fun _ _ h => absurd rfl h
  ros := hr.ros

/-- A function that only computes: its answer tells of no own memory. -/
structure PF (P : Program) (f : FuncId) (args : List AV) (X : AV → Prop) : Prop where
  cal : Callable P f
  run : ∀ n, AC P f args noHeap n fun r _ _ => ∃ x, r = .ret x ∧ Pur x ∧ X x
theorem PF.mono {P : Program} {f : FuncId} {args : List AV} {X Y : AV → Prop} (h : PF P f args X) (hx : ∀ x, X x → Y x) : PF P f args Y :=
  ⟨h.cal, fun n => (h.run n).mono fun _ _ _ ⟨x, h1, h2, h3⟩ => ⟨x, h1, h2, hx x h3⟩⟩

theorem ac_pure {P : Program} {f : FuncId} {args : List AV} {X : AV → Prop} (h : PF P f args X) (H : Heap) (n : Nat) : AC P f args H n fun r H' n' => H' = H ∧ n' = n ∧ ∃ x, r = .ret x ∧ Pur x ∧ X x := by
  intro K vs hn hr hv
  refine ((h.run n) K vs hn (rel_none hr) hv).mono ?_
  rintro e w' ⟨K', H1, r, rfl, hr', hst, hrr, x, rfl, hp, hX⟩
  let K2 : Ctx := { base := K.base, boff := K.boff, bsz := K.bsz, next := K.next, ro := K'.ro, w := K'.w }
  have hsame : ∀ b, b < K.w.heap.size → K'.w.heap[b]? = K.w.heap[b]? := fun b hb => hst.same b hb (fun ⟨id, h1, _⟩ => h1 rfl)
  have hro' : ∀ b, K'.ro b → K.ro b ∨ K.w.heap.size ≤ b := fun b hb => by
    rcases hst.ro' b hb with h | ⟨id, h1, _⟩ | h
    · exact .inl h
    · exact absurd rfl h1
    · exact .inr h
  have hE : Ext K K2 := ⟨Nat.le_refl _, fun _ _ => ⟨rfl, rfl, rfl⟩, hst.ro, fun b hb => hsame b (hr.ros b hb)⟩
  refine ⟨K2, H, .ret x, rfl, ⟨hr.lt, fun id hid hb => ?_, fun id b hb => ?_, hr.inj, hr'.ros⟩, ⟨Nat.le_refl _, fun _ _ => ⟨rfl, rfl, rfl⟩, hst.ro, hst.size, fun b hb _ => hsame b hb, fun _ h => .inl h, fun b hb => ?_, hst.os, hst.tape, hst.output⟩, ?_, rfl, hn, x, rfl, hp, hX⟩
  · rcases hro' _ hb with h1 | h1
    · exact hr.nro id hid h1
    · have h1 : K.w.heap.size ≤ K.base id := h1
      have := hr.size_lt hid; omega
  · have hid : H id ≠ none := by rw [hb]; simp
    exact (hr.br id b hb).mono hE (hr.lt id hid) (hsame _ (hr.size_lt hid))
  · rcases hro' b hb with h1 | h1
    · exact .inl h1
    · exact .inr (.inr h1)
  · cases hrr with
    | ret hv => exact .ret (VR.pur (K := K') (K' := K2) (fun _ h => h) (fun _ _ => rfl) hv hp)

/-- Frame: what a call's contract doesn't name stays. -/
def Heap.or (H1 H2 : Heap) : Heap := fun id => match H1 id with
  | some b => some b
  | none => H2 id
theorem ac_frame {P : Program} {f : FuncId} {args : List AV} {H1 H2 : Heap} {n : Nat} {Q : AR → Heap → Nat → Prop} (hd : ∀ id, H1 id ≠ none → H2 id = none) (h : AC P f args H1 n Q) :
    AC P f args (H1.or H2) n fun r H' n' => ∃ H1', H' = H1'.or H2 ∧ (∀ id, H1' id ≠ none → H2 id = none) ∧ Q r H1' n' := by
  intro K vs hn hr hv
  have in1 : ∀ {id b}, H1 id = some b → (H1.or H2) id = some b := fun h => by simp [Heap.or, h]
  have in2 : ∀ {id b}, H2 id = some b → (H1.or H2) id = some b := fun {id b} h => by
    have : H1 id = none := by
      cases h1 : H1 id with
      | none => rfl
      | some c => have := hd id (by rw [h1]; simp); rw [this] at h; cases h
    simp [Heap.or, this, h]
  have ne1 : ∀ {id}, H1 id ≠ none → (H1.or H2) id ≠ none := fun {id} h => by
    cases h1 : H1 id with
    | none => exact absurd h1 h
    | some b => rw [in1 h1]; simp
  have ne2 : ∀ {id}, H2 id ≠ none → (H1.or H2) id ≠ none := fun {id} h => by
    cases h1 : H2 id with
    | none => exact absurd h1 h
    | some b => rw [in2 h1]; simp
  have hr1 : Rel K H1 := ⟨fun id h => hr.lt id (ne1 h), fun id h => hr.nro id (ne1 h), fun id b h => hr.br id b (in1 h), fun i j hi hj => hr.inj i j (ne1 hi) (ne1 hj), hr.ros⟩
  refine (h K vs hn hr1 hv).mono ?_
  rintro e w' ⟨K', H1', r, rfl, hr', hst, hrr, hQ⟩
  have hE := hst.ext hr1
  have notOB : ∀ {id}, H2 id ≠ none → ¬ OB K H1 (K.base id) := fun {id} h2 ⟨j, hj, e⟩ => by
    have := hr.inj j id (ne1 hj) (ne2 h2) e
    subst this
    exact h2 (hd j hj)
  have bse : ∀ {id}, H2 id ≠ none → K'.base id = K.base id := fun {id} h2 => (hst.mu id (hr.lt id (ne2 h2))).1
  have sz2 : ∀ {id}, H2 id ≠ none → K.base id < K.w.heap.size := fun {id} h2 => hr.size_lt (ne2 h2)
  have notOB' : ∀ {id}, H2 id ≠ none → ¬ OB K' H1' (K'.base id) := fun {id} h2 ho => by
    rw [bse h2] at ho
    rcases hst.own _ ho with h3 | h3
    · exact notOB h2 h3
    · have := sz2 h2; omega
  have hd' : ∀ id, H1' id ≠ none → H2 id = none := fun id h1 => by
    cases h2 : H2 id with
    | none => rfl
    | some b => exact absurd ⟨id, h1, rfl⟩ (notOB' (id := id) (by rw [h2]; simp))
  have split' : ∀ {id}, (H1'.or H2) id ≠ none → H1' id ≠ none ∨ (H1' id = none ∧ H2 id ≠ none) := fun {id} h => by
    cases h1 : H1' id with
    | none => refine .inr ⟨rfl, ?_⟩; simpa [Heap.or, h1] using h
    | some b => exact .inl (by simp)
  refine ⟨K', H1'.or H2, r, rfl, ⟨fun id h => ?_, fun id h => ?_, fun id b h => ?_, fun i j hi hj e => ?_, hr'.ros⟩, ?_, hrr, H1', rfl, hd', hQ⟩
  · rcases split' h with h1 | ⟨_, h2⟩
    · exact hr'.lt id h1
    · exact Nat.lt_of_lt_of_le (hr.lt id (ne2 h2)) hst.next
  · rcases split' h with h1 | ⟨_, h2⟩
    · exact hr'.nro id h1
    · rw [bse h2]
      intro hb
      rcases hst.ro' _ hb with h3 | h3 | h3
      · exact hr.nro id (ne2 h2) h3
      · exact notOB h2 h3
      · have := sz2 h2; omega
  · cases h1 : H1' id with
    | some c => simp only [Heap.or, h1] at h; cases h; exact hr'.br id _ h1
    | none =>
      simp only [Heap.or, h1] at h
      have h2 : H2 id ≠ none := by rw [h]; simp
      exact (hr.br id b (in2 h)).mono hE (hr.lt id (ne2 h2)) (hst.same _ (sz2 h2) (notOB h2))
  · rcases split' hi with h1 | ⟨_, h1⟩ <;> rcases split' hj with h2 | ⟨_, h2⟩
    · exact hr'.inj i j h1 h2 e
    · exact absurd ⟨i, h1, e⟩ (notOB' h2)
    · exact absurd ⟨j, h2, e.symm⟩ (notOB' h1)
    · rw [bse h1, bse h2] at e; exact hr.inj i j (ne2 h1) (ne2 h2) e
  · refine ⟨hst.next, hst.mu, hst.ro, hst.size, fun b hb hn => hst.same b hb (fun ⟨id, h1, e⟩ => hn ⟨id, ne1 h1, e⟩), ?_, fun b hb => ?_, hst.os, hst.tape, hst.output⟩
    · rintro b ⟨id, hid, rfl⟩
      rcases split' hid with h1 | ⟨_, h2⟩
      · rcases hst.own _ ⟨id, h1, rfl⟩ with ⟨j, hj, e⟩ | h3
        · exact .inl ⟨j, ne1 hj, e⟩
        · exact .inr h3
      · exact .inl ⟨id, ne2 h2, (bse h2).symm⟩
    · rcases hst.ro' b hb with h1 | ⟨j, hj, e⟩ | h1
      · exact .inl h1
      · exact .inr (.inl ⟨j, ne1 hj, e⟩)
      · exact .inr (.inr h1)

/-- The same value, told with less. -/
def Sub (x y : AV) : Prop := ∀ K v, VR K x v → VR K y v
theorem Sub.refl (x : AV) : Sub x x := fun _ _ h => h
theorem Sub.empty : Sub .empty (.view []) := fun _ _ h => empty_view h
inductive Subs : List AV → List AV → Prop
  | nil : Subs [] []
  | cons {x y : AV} {xs ys : List AV} (h : Sub x y) (hs : Subs xs ys) : Subs (x :: xs) (y :: ys)
theorem Subs.refl : ∀ xs, Subs xs xs
  | [] => .nil
  | x :: xs => .cons (.refl x) (Subs.refl xs)
theorem Subs.VRs {xs ys : List AV} (h : Subs xs ys) {K : Ctx} : ∀ {vs : List Value}, Lg.VRs K xs vs → Lg.VRs K ys vs := by
  induction h with
  | nil => exact fun h => h
  | cons h hs ih =>
    intro vs hv
    cases vs with
    | nil => have := hv.1; simp at this
    | cons v vs => exact .cons (h K v hv.head) (ih hv.tail)
theorem Sub.agg {xs ys : List AV} (h : Subs xs ys) : Sub (.agg xs) (.agg ys) := fun K v hv => by
  obtain ⟨vs, rfl, hvs⟩ := hv.agg_inv
  exact VR.agg_.2 (h.VRs hvs)
theorem Sub.tuple {xs ys : List AV} (h : Subs xs ys) : Sub (.tuple xs) (.tuple ys) := fun K v hv => by
  obtain ⟨vs, rfl, hvs⟩ := hv.tuple_inv
  exact VR.tuple_.2 (h.VRs hvs)

section
variable {P : Program} {B : Fb → Prop} {T : TT} (hT : TOK P T) {N m : Nat} {o : Oper} {σ : St} {all rest : List Oper} {Q : AEx → St → Prop}
theorem callFunc_run {f : FuncId} (h : Callable P f) (args : Array Value) (w : World) : (callFunc f args).run P w = .ok (.enter f args) w := by
  obtain ⟨fn, h1, h2, h3⟩ := h
  have h4 : fn.body.isNone = false := by cases hb : fn.body <;> simp_all
  unfold callFunc
  rw [run_bindv (a := P) (w' := w) rfl]
  simp only [h1, h2, h4, Bool.false_eq_true, if_false]
  rfl
theorem opc_call {fo : Operand} {args : Array Operand} {ats : Array TypeId} {g : FuncId} {first cap xs ys : List AV} (hop : o.op = .call { callee := .value fo, args := args, argTypes := ats }) (hf : evo σ.tm fo = some (.func (.func g) first cap))
    (hx : evs σ.tm args.toList = some xs) (hc : Callable P g) (hs : Subs (first ++ xs ++ cap) ys) : OpC P N o σ g ys := by
  intro K a hsr
  have hv := evo_sound hsr.tr hf
  have hxs := evs_sound hsr.tr hx
  generalize hh : a.eval fo = v at hv
  cases v <;> cases hv
  rename_i fs cs h1 h2 h3 h4 h5
  have g1 : VRs K first fs.toList := ⟨by simpa using h2, fun i x v hx hv => by
    have := h3 i x hx; rw [Array.getD_eq_getD_getElem?] at this; rw [Array.getElem?_toList] at hv; simpa [hv] using this⟩
  have g2 : VRs K cap cs.toList := ⟨by simpa using h4, fun i x v hx hv => by
    have := h5 i x hx; rw [Array.getD_eq_getD_getElem?] at this; rw [Array.getElem?_toList] at hv; simpa [hv] using this⟩
  refine ⟨(fs ++ args.map a.eval) ++ cs, ?_, hs.VRs ?_⟩
  · unfold execOp; rw [hop]
    have hres : (resolve a.eval { callee := .value fo, args := args, argTypes := ats } o.type).run P K.w = .ok { target := .fn (.func g) cs, args := fs ++ args.map a.eval } K.w := by
      unfold resolve
      simp only [hh, Deferred.ofValue]
      rfl
    rw [run_bindv hres]
    unfold invoke
    exact callFunc_run hc _ _
  · simp only [Array.toList_append, Array.toList_map]
    exact (g1.append hxs).append g2
/-- A call of a function that only computes. -/
theorem wl_pcall {fo : Operand} {args : Array Operand} {ats : Array TypeId} {g : FuncId} {first cap xs ys : List AV} {X : AV → Prop} (hop : o.op = .call { callee := .value fo, args := args, argTypes := ats }) (hu : unguarded all o σ.tm true) (hd : ∀ t, o.dst = some t → t < N)
    (hf : evo σ.tm fo = some (.func (.func g) first cap)) (hx : evs σ.tm args.toList = some xs) (hs : Subs (first ++ xs ++ cap) ys) (hp : PF P g ys X) (h : ∀ x, X x → Pur x → WL P B N m all rest Q ⟨putT σ.tm o.dst x, σ.h, σ.n, σ.df⟩) : WL P B N m all (o :: rest) Q σ := by
  refine wl_call hu hd (by rw [hop]; intro c; simp) (opc_call hop hf hx hp.cal hs) (ac_pure hp σ.h σ.n) ?_
  rintro r h' n' ⟨rfl, rfl, x, rfl, hpu, hX⟩
  exact h x hX hpu

/-! ghost steps on slots -/
theorem g_kill (id : Nat) : ∀ K a, SR K N σ a → ∃ K1, K1.w = K.w ∧ SR K1 N ⟨σ.tm, upd σ.h id none, σ.n, σ.df⟩ a ∧ Step K σ.h K1 (upd σ.h id none) :=
  fun K _ h => ⟨K, rfl, ⟨h.next, (kill_ok h.rel id).1, h.tr, by
    have hE : Ext K K := Ext.refl K
    exact h.dr.mono hE⟩, (kill_ok h.rel id).2⟩
theorem slice_frozen {K : Ctx} {H : Heap} (hr : Rel K H) {id off len : Nat} {cap : Option Nat} {sz : Nat} {cs : List AV} {e : TypeId} {v : Value} (hH : H id = some (.cells cs e)) (hl : off + len * sz ≤ cs.length) (hv : VR K (.slice id off len cap sz) v) :
    VR (K.roAlso (K.base id)) (.view (chunk sz len (cs.drop off))) v := by
  have hid : H id ≠ none := by rw [hH]; simp
  obtain ⟨_, _, hE⟩ := freeze_ok hr hid
  cases hv with
  | @slice _ _ _ _ _ o' c hid' ho hc hl' hcap =>
    by_cases hp : 0 < len
    · rw [ho (by omega)]
      obtain ⟨vs, h1, h2⟩ := own_cells (hr.br id _ hH) off
      exact view_of_cells (h1.mono hE) h2 (.inr rfl) (by rw [List.length_drop]; omega) hl'
    · have e0 : len = 0 := by omega
      subst e0
      exact view_mk (rows := []) (esz := 0) (Nat.zero_le _) (by simp) (by simp)
/-- A slice that lies in a cell of own memory, only read from now on. -/
theorem g_freeze_cell {id j id2 off len : Nat} {cap : Option Nat} {sz : Nat} {cs cs2 : List AV} {e e2 : TypeId} (hne : id ≠ id2) (hH : σ.h id = some (.cells cs e)) (hj : cs[j]? = some (.slice id2 off len cap sz)) (hH2 : σ.h id2 = some (.cells cs2 e2)) (hl : off + len * sz ≤ cs2.length) :
    ∀ K a, SR K N σ a → ∃ K1, K1.w = K.w ∧ SR K1 N ⟨σ.tm, upd (upd σ.h id2 none) id (some (.cells (cs.set j (.view (chunk sz len (cs2.drop off)))) e)), σ.n, σ.df⟩ a ∧ Step K σ.h K1 (upd (upd σ.h id2 none) id (some (.cells (cs.set j (.view (chunk sz len (cs2.drop off)))) e))) := by
  intro K a h
  have hid2 : σ.h id2 ≠ none := by rw [hH2]; simp
  obtain ⟨h1, h2, hE⟩ := freeze_ok h.rel hid2
  have hidlt := h.rel.lt id (by rw [hH]; simp)
  have hnew : BR (K.roAlso (K.base id2)) id (.cells (cs.set j (.view (chunk sz len (cs2.drop off)))) e) := by
    obtain ⟨arr, fr, ha, ht, hz, hlen, hv⟩ := h.rel.br id _ hH
    refine ⟨arr, fr, ha, ht, hz, by rw [List.length_set]; exact hlen, fun i x hx => ?_⟩
    rw [List.getElem?_set] at hx
    by_cases ei : j = i
    · subst ei
      rw [if_pos rfl] at hx
      split at hx
      · cases hx
        obtain ⟨v, g1, g2⟩ := hv j _ hj
        exact ⟨v, g1, slice_frozen h.rel hH2 hl g2⟩
      · cases hx
    · rw [if_neg ei] at hx
      obtain ⟨v, g1, g2⟩ := hv i x hx
      exact ⟨v, g1, g2.mono hE⟩
  have hid' : upd σ.h id2 none id ≠ none := by rw [upd_ne _ _ hne, hH]; simp
  have hw : Wrote (K.roAlso (K.base id2)).w (K.roAlso (K.base id2)).w ((K.roAlso (K.base id2)).base id) := ⟨rfl, fun _ _ => rfl, rfl, rfl, rfl⟩
  obtain ⟨k1, k2⟩ := wrote_ok h1 hid' hw hnew
  exact ⟨K.roAlso (K.base id2), rfl, ⟨h.next, k1, ⟨h.tr.1, fun t => (h.tr.2 t).mono hE⟩, h.dr.mono hE⟩, h2.trans k2⟩
end

/-! results -/
def resOne (T : TT) (σ : St) : ResultVar → Option AV
  | .tmp t => some (σ.tm t)
  | .cell a t => match T t, σ.tm a with
    | some i, .vptr cells => loadA i cells
    | some i, .ptr id off => match σ.h id with
      | some (.cells cs _) => loadA i (cs.drop off)
      | _ => none
    | _, _ => none
def resA (T : TT) (σ : St) : List ResultVar → Option (List AV)
  | [] => some []
  | r :: rs => match resOne T σ r, resA T σ rs with
    | some x, some xs => some (x :: xs)
    | _, _ => none
def tup : List AV → AV
  | [x] => x
  | xs => .tuple xs
section
variable {P : Program} {B : Fb → Prop} {T : TT} (hT : TOK P T) {N : Nat} {σ : St}
include hT
theorem resOne_run {K : Ctx} {a : Act} (hs : SR K N σ a) {r : ResultVar} {x : AV} (h : resOne T σ r = some x) :
    ∃ v, ((match r with
      | .tmp t => pure (a.tmps.getD t undef)
      | .cell ad t => do loadVar t (← asAddr (a.tmps.getD ad undef)) : Sem Value)).run P K.w = .ok v K.w ∧ VR K x v := by
  cases r with
  | tmp t => cases h; exact ⟨_, rfl, hs.tr.2 t⟩
  | cell ad t =>
    simp only [resOne] at h
    have hv := hs.tr.2 ad
    split at h
    · rename_i i cells hi e
      rw [e] at hv
      obtain ⟨blk, off, vs, hv', _, hvs, hc⟩ := vptr_cells hv
      obtain ⟨v, h1, h2⟩ := r_loadVar hT hi hvs hc h
      refine ⟨v, ?_, h2⟩
      simp only
      rw [hv', run_bindv (a := ⟨blk, off, none⟩) (w' := K.w) rfl]
      exact h1
    · rename_i i id off hi e
      rw [e] at hv
      obtain ⟨hv', hlt⟩ := hv.ptr_inv
      split at h
      · rename_i cs e' hH
        obtain ⟨vs, hvs, hc⟩ := own_cells (hs.rel.br id _ hH) off
        obtain ⟨v, h1, h2⟩ := r_loadVar hT hi hvs hc h
        refine ⟨v, ?_, h2⟩
        simp only
        rw [hv', run_bindv (a := ⟨K.base id, K.boff id + off, none⟩) (w' := K.w) rfl]
        exact h1
      · cases h
    · cases h
theorem resv_of {fn : Func} {xs : List AV} (h : resA T σ fn.results.toList = some xs) : ResV P N fn σ (tup xs) := by
  intro K a hs
  have key : ∀ (rs : List ResultVar) (xs : List AV), resA T σ rs = some xs → ∃ vs, (rs.mapM (fun (r : ResultVar) => match r with
      | .tmp t => pure (a.tmps.getD t undef)
      | .cell ad t => do loadVar t (← asAddr (a.tmps.getD ad undef)) : ResultVar → Sem Value)).run P K.w = .ok vs K.w ∧ VRs K xs vs := by
    intro rs
    induction rs with
    | nil => intro xs h; cases h; exact ⟨[], by simp, VRs.nil K⟩
    | cons r rs ih =>
      intro xs h
      unfold resA at h
      split at h
      · rename_i x xs' h1 h2
        cases h
        obtain ⟨v, g1, g2⟩ := resOne_run hT hs h1
        obtain ⟨vs, k1, k2⟩ := ih xs' h2
        refine ⟨v :: vs, ?_, .cons g2 k2⟩
        rw [List.mapM_cons, run_bindv g1, run_bindv k1]; rfl
      · cases h
  obtain ⟨vs, h1, h2⟩ := key _ _ h
  have hm : (fn.results.mapM (fun (r : ResultVar) => match r with
      | .tmp t => pure (a.tmps.getD t undef)
      | .cell ad t => do loadVar t (← asAddr (a.tmps.getD ad undef)) : ResultVar → Sem Value)).run P K.w = .ok vs.toArray K.w := by
    rw [Array.mapM_eq_mapM_toList]
    simp only [Sem.run_map]
    rw [h1]; rfl
  refine ⟨if h : vs.toArray.size = 1 then vs.toArray[0] else .tuple vs.toArray, ?_, ?_⟩
  · unfold results
    exact (run_bindv hm).trans rfl
  · match xs, vs, h2 with
    | [], [], h2 => exact VR.tuple_.2 h2
    | [x], [v], h2 => exact h2.head
    | x :: y :: xs, [], h2 => have := h2.1; simp at this
    | x :: y :: xs, [v], h2 => have := h2.1; simp at this
    | x :: y :: xs, v :: u :: vs, h2 =>
      rw [dif_neg (by simp)]
      exact VR.tuple_.2 (by simpa using h2)
    | [], v :: vs, h2 => have := h2.1; simp at this
    | [x], [], h2 => have := h2.1; simp at this
    | [x], v :: u :: vs, h2 => have := h2.1; simp at this
end
theorem ResV.sub {P : Program} {N : Nat} {fn : Func} {σ : St} {x y : AV} (h : ResV P N fn σ x) (hs : Sub x y) : ResV P N fn σ y :=
  fun K a h' => let ⟨v, h1, h2⟩ := h K a h'; ⟨v, h1, hs K v h2⟩

/-- A function that only computes, by its body. -/
def DoneP (P : Program) (fn : Func) (X : AV → Prop) : AEx → St → Prop
  | .normal, σ | .ret, σ => σ.df = [] ∧ ∃ x, ResV P fn.ntmps fn σ x ∧ Pur x ∧ X x
  | _, _ => False
end Go.Lg

/- Walk rules: a row of code by the form of its operation. -/
set_option linter.unusedVariables false
set_option linter.unusedSimpArgs false
set_option linter.unusedSectionVars false
namespace Go.Lg
open Go

section rules
variable {P : Program} {B : Fb → Prop} {T : TT} {N m : Nat} {all rest : List Oper} {Q : AEx → St → Prop} {tm : Nat → AV} {hp : Heap} {n : Nat} {df : List Nat}
  {d : Nat} {op : Op} {ty : TypeId} {pos : String} {af : Array Edge} {j : Nat} {want : Bool} {x : AV} {t : Nat} {b : Bool}

def gslot (all : List Oper) (j : Nat) : Option Tmp := match all[j]? with
  | some o => o.dst
  | none => none
theorem ung_none {o : Oper} (h : o.guard = none) : unguarded all o tm true := by unfold unguarded; rw [h]
theorem ung_some {o : Oper} {c : Bool} (h : o.guard = some (j, want)) (hg : gslot all j = some t) (ht : tm t = .bool c) : unguarded all o tm (c == want) := by
  unfold unguarded
  rw [h]
  unfold gslot at hg
  split at hg
  · rename_i oj ho; exact ⟨oj, t, ho, hg, .inl ⟨c, ht, rfl⟩⟩
  · cases hg
/-- A guard that isn't met: it says otherwise, or was itself left out. -/
def isOff (want : Bool) : AV → Bool
  | .bool c => c != want
  | .tuple [] => true
  | _ => false
theorem ung_off {o : Oper} {y : AV} (h : o.guard = some (j, want)) (hg : gslot all j = some t) (ht : tm t = y) (hy : isOff want y = true) : unguarded all o tm false := by
  unfold unguarded
  rw [h]
  unfold gslot at hg
  split at hg
  · rename_i oj ho
    refine ⟨oj, t, ho, hg, ?_⟩
    unfold isOff at hy
    split at hy
    · rename_i c; exact .inl ⟨c, ht, by simpa using hy⟩
    · exact .inr ⟨ht, rfl⟩
    · cases hy
  · cases hg

theorem wv (hT : TOK P T) (hx : pv T tm op = some x) (hd : d < N) (h : WL P B N m all rest Q ⟨upd tm d x, hp, n, df⟩) : WL P B N m all (⟨some d, op, ty, pos, af, none⟩ :: rest) Q ⟨tm, hp, n, df⟩ :=
  wl_op (o := ⟨some d, op, ty, pos, af, none⟩) (ung_none rfl) (fun _ h => by cases h; exact hd) (fun c h => by
    have h : op = .defer c := h
    rw [h] at hx; cases hx) (pv_sound hT hx) h
theorem wvg (hT : TOK P T) (hg : gslot all j = some t) (ht : tm t = .bool want) (hx : pv T tm op = some x) (hd : d < N) (h : WL P B N m all rest Q ⟨upd tm d x, hp, n, df⟩) : WL P B N m all (⟨some d, op, ty, pos, af, some (j, want)⟩ :: rest) Q ⟨tm, hp, n, df⟩ :=
  wl_op (o := ⟨some d, op, ty, pos, af, some (j, want)⟩) (by have := ung_some (o := ⟨some d, op, ty, pos, af, some (j, want)⟩) (tm := tm) rfl hg ht; simpa using this) (fun _ h => by cases h; exact hd) (fun c h => by
    have h : op = .defer c := h
    rw [h] at hx; cases hx) (pv_sound hT hx) h
theorem upd_self {α : Type} {f : Nat → α} {i : Nat} {x : α} (h : f i = x) : upd f i x = f := by
  funext k; unfold upd; split
  · rename_i e; rw [e, h]
  · rfl
/-- Where a guard isn't known: both. -/
theorem wsplit {o : Option Tmp} (_ : gslot all j = some t) (ht : tm t = .bool b) (h : (b = true → WL P B N m all (⟨o, op, ty, pos, af, some (j, want)⟩ :: rest) Q ⟨upd tm t (.bool true), hp, n, df⟩) ∧ (b = false → WL P B N m all (⟨o, op, ty, pos, af, some (j, want)⟩ :: rest) Q ⟨upd tm t (.bool false), hp, n, df⟩)) :
    WL P B N m all (⟨o, op, ty, pos, af, some (j, want)⟩ :: rest) Q ⟨tm, hp, n, df⟩ := by
  cases b with
  | true => have := h.1 rfl; rwa [upd_self ht] at this
  | false => have := h.2 rfl; rwa [upd_self ht] at this

theorem w_if {c : Operand} {u v : Code} (hc : evo tm c = some (.bool b)) (h : (b = true → W P B N m u Q ⟨tm, hp, n, df⟩) ∧ (b = false → W P B N m v Q ⟨tm, hp, n, df⟩)) : W P B N m (.cond c u v) Q ⟨tm, hp, n, df⟩ := by
  intro K a hm hs
  have hv := (evo_sound hs.tr hc).bool_inv
  refine mw_cond hv ?_
  cases b with
  | true => exact h.1 rfl K a hm hs
  | false => exact h.2 rfl K a hm hs
theorem w_ift {c : Operand} {u v : Code} (hc : evo tm c = some (.bool true)) (h : W P B N m u Q ⟨tm, hp, n, df⟩) : W P B N m (.cond c u v) Q ⟨tm, hp, n, df⟩ := w_if hc ⟨fun _ => h, fun h => Bool.noConfusion h⟩
theorem w_iff {c : Operand} {u v : Code} (hc : evo tm c = some (.bool false)) (h : W P B N m v Q ⟨tm, hp, n, df⟩) : W P B N m (.cond c u v) Q ⟨tm, hp, n, df⟩ := w_if hc ⟨fun h => Bool.noConfusion h, fun _ => h⟩
end rules

/-! the same with the value found first, then compared -/
section two
variable {P : Program} {B : Fb → Prop} {T : TT} {N m : Nat} {all rest : List Oper} {Q : AEx → St → Prop} {tm : Nat → AV} {hp : Heap} {n : Nat} {df : List Nat}
  {d : Nat} {op : Op} {ty : TypeId} {pos : String} {af : Array Edge} {j : Nat} {want : Bool} {x y : AV} {t : Nat}
theorem wvg' (hT : TOK P T) (hg : gslot all j = some t) (ht : tm t = y) (hy : y = .bool want) (hx : pv T tm op = some x) (hd : d < N) (h : WL P B N m all rest Q ⟨upd tm d x, hp, n, df⟩) : WL P B N m all (⟨some d, op, ty, pos, af, some (j, want)⟩ :: rest) Q ⟨tm, hp, n, df⟩ :=
  wvg hT hg (ht.trans hy) hx hd h
theorem wskip' (hg : gslot all j = some t) (ht : tm t = y) (hy : isOff want y = true) (hd : d < N) (h : WL P B N m all rest Q ⟨upd tm d (.tuple []), hp, n, df⟩) : WL P B N m all (⟨some d, op, ty, pos, af, some (j, want)⟩ :: rest) Q ⟨tm, hp, n, df⟩ :=
  wl_skip (o := ⟨some d, op, ty, pos, af, some (j, want)⟩) (ung_off rfl hg ht hy) (fun _ h => by cases h; exact hd) h
theorem wskip0' (hg : gslot all j = some t) (ht : tm t = y) (hy : isOff want y = true) (h : WL P B N m all rest Q ⟨tm, hp, n, df⟩) : WL P B N m all (⟨none, op, ty, pos, af, some (j, want)⟩ :: rest) Q ⟨tm, hp, n, df⟩ :=
  wl_skip (o := ⟨none, op, ty, pos, af, some (j, want)⟩) (ung_off rfl hg ht hy) (fun _ h => by cases h) h
theorem w_ift' {c : Operand} {u v : Code} (hc : evo tm c = some y) (hy : y = .bool true) (h : W P B N m u Q ⟨tm, hp, n, df⟩) : W P B N m (.cond c u v) Q ⟨tm, hp, n, df⟩ := w_ift (by rw [hc, hy]) h
theorem w_iff' {c : Operand} {u v : Code} (hc : evo tm c = some y) (hy : y = .bool false) (h : W P B N m v Q ⟨tm, hp, n, df⟩) : W P B N m (.cond c u v) Q ⟨tm, hp, n, df⟩ := w_iff (by rw [hc, hy]) h
end two
theorem upd_b {α : Type} (f : Nat → α) (i : Nat) (x : α) (j : Nat) : upd f i x j = bif j == i then x else f j := by
  unfold upd; by_cases h : j = i
  · subst h; simp
  · rw [if_neg h, beq_false_of_ne h]; rfl
theorem args0_nil (t : Nat) : args0 [] t = .tuple [] := rfl
theorem args0_zero (x : AV) (xs : List AV) : args0 (x :: xs) 0 = x := rfl
theorem args0_succ (x : AV) (xs : List AV) (t : Nat) : args0 (x :: xs) (t + 1) = args0 xs t := rfl
section ends
variable {next : St → Prop} {Q : AEx → St → Prop} {σ : St}
theorem go_normal (h : next σ) : AEx.go next Q .normal σ := h
theorem go_ret (h : Q .ret σ) : AEx.go next Q .ret σ := h
theorem go_exit {i : Nat} (h : Q (.exit i) σ) : AEx.go next Q (.exit i) σ := h
theorem blk_normal {id : Nat} (h : Q .normal σ) : AEx.blk id Q .normal σ := h
theorem blk_ret {id : Nat} (h : Q .ret σ) : AEx.blk id Q .ret σ := h
theorem blk_here {id : Nat} (h : Q .normal σ) : AEx.blk id Q (.exit id) σ := by simpa [AEx.blk] using h
theorem blk_off {id i : Nat} (hn : i ≠ id) (h : Q (.exit i) σ) : AEx.blk id Q (.exit i) σ := by simpa [AEx.blk, hn] using h
theorem done_ret {P : Program} {T : TT} (hT : TOK P T) {fn : Func} {X : AV → Prop} {rs : Array ResultVar} {xs : List AV} {tm : Nat → AV} {hp : Heap} {n : Nat} (hr : fn.results = rs) (h : resA T ⟨tm, hp, n, []⟩ rs.toList = some xs) (hpu : Pur (tup xs)) (hx : X (tup xs)) : DoneP P fn X .ret ⟨tm, hp, n, []⟩ :=
  ⟨rfl, tup xs, resv_of hT (by rw [hr]; exact h), hpu, hx⟩
theorem done_end {P : Program} {T : TT} (hT : TOK P T) {fn : Func} {X : AV → Prop} {rs : Array ResultVar} {xs : List AV} {tm : Nat → AV} {hp : Heap} {n : Nat} (hr : fn.results = rs) (h : resA T ⟨tm, hp, n, []⟩ rs.toList = some xs) (hpu : Pur (tup xs)) (hx : X (tup xs)) : DoneP P fn X .normal ⟨tm, hp, n, []⟩ :=
  ⟨rfl, tup xs, resv_of hT (by rw [hr]; exact h), hpu, hx⟩
end ends
end Go.Lg

/- More operations by value: indexing, parts, building, memory of the frame's own. -/
set_option linter.unusedVariables false
set_option linter.unusedSimpArgs false
set_option linter.unusedSectionVars false
namespace Go.Lg
open Go

def pvIndexAddr (T : TT) (t : TypeId) (x i : AV) : Option AV :=
  match T t, i with
  | some ti, .int _ i => match ti.desc with
    | .slice e => match T e with
      | some ei => if 0 ≤ i then match x with
        | .view rows => match rows[i.toNat]? with
          | some r => if r.length = ei.size then some (.vptr r) else none
          | none => none
        | .slice id off len _ sz => if i < len then if sz = ei.size then some (.ptr id (off + i.toNat * sz)) else none else none
        | _ => none
        else none
      | none => none
    | .array n e => match T e with
      | some ei => if 0 ≤ i then if i < n then match x with
        | .ptr id off => some (.ptr id (off + i.toNat * ei.size))
        | .vptr cells => some (.vptr (cells.drop (i.toNat * ei.size)))
        | _ => none
        else none else none
      | none => none
    | _ => none
  | _, _ => none
def pvIndex (T : TT) (t : TypeId) (x i : AV) : Option AV :=
  match T t, i, x with
  | some ti, .int _ i, .agg cs => match ti.desc with
    | .array n e => match T e with
      | some ei => if 0 ≤ i then if i < n then partA ei cs (i.toNat * ei.size) else none else none
      | none => none
    | _ => none
  | _, _, _ => none
def pvOwn (T : TT) (h : Heap) (t : TypeId) (x : AV) : Option AV :=
  match T t, x with
  | some i, .ptr id off => match h id with
    | some (.cells cs _) => loadA i (cs.drop off)
    | _ => none
  | _, _ => none
def pvx (T : TT) (tm : Nat → AV) (h : Heap) (op : Op) : Option AV :=
  match op with
  | .indexAddr t x i => (evo tm x).bind fun a => (evo tm i).bind fun b => pvIndexAddr T t a b
  | .index t x i => (evo tm x).bind fun a => (evo tm i).bind fun b => pvIndex T t a b
  | .load t x => (evo tm x).bind (pvOwn T h t)
  | .build t parts => (evp tm parts.toList).bind fun ps => (buildA T t ps).map .agg
  | .box _ x => (evo tm x).bind fun y => if known y = true then some (.vptr (cellsA y)) else none
  | _ => none

section
variable {P : Program} {B : Fb → Prop} {T : TT} (hT : TOK P T) {N m : Nat} {o : Oper} {σ : St}
theorem bind_some_ {α β : Type} {x : Option α} {f : α → Option β} {b : β} (h : x.bind f = some b) : ∃ a, x = some a ∧ f a = some b := by
  cases x with
  | none => cases h
  | some a => exact ⟨a, rfl, h⟩
include hT
theorem pvx_sound {x : AV} (h : pvx T σ.tm σ.h o.op = some x) : OpV P N o σ x σ.h σ.n := by
  unfold pvx at h
  split at h
  · rename_i t a b hop
    obtain ⟨u, hu, h⟩ := bind_some_ h
    obtain ⟨v, hv, h⟩ := bind_some_ h
    unfold pvIndexAddr at h
    split at h
    · rename_i ti k i ht
      split at h
      · rename_i e hd
        split at h
        · rename_i ei he
          split at h
          · rename_i h0
            split at h
            · rename_i rows
              split at h
              · rename_i r hr
                split at h
                · rename_i hz
                  cases h
                  exact opv_indexAddr_view hT hop hu hv ht hd he h0 hr hz
                · cases h
              · cases h
            · rename_i id off len cap sz
              split at h
              · rename_i hlt
                split at h
                · rename_i hz
                  cases h
                  exact opv_indexAddr_own hT hop hu hv ht hd he h0 hlt hz
                · cases h
              · cases h
            · cases h
          · cases h
        · cases h
      · rename_i n e hd
        split at h
        · rename_i ei he
          split at h
          · rename_i h0
            split at h
            · rename_i hlt
              split at h
              · rename_i id off
                cases h
                exact opv_indexAddr_arr hT hop hu hv ht hd he h0 hlt (.inl ⟨_, _, rfl, rfl⟩)
              · rename_i cells
                cases h
                exact opv_indexAddr_arr hT hop hu hv ht hd he h0 hlt (.inr ⟨_, rfl, rfl⟩)
              · cases h
            · cases h
          · cases h
        · cases h
      · cases h
    · cases h
  · rename_i t a b hop
    obtain ⟨u, hu, h⟩ := bind_some_ h
    obtain ⟨v, hv, h⟩ := bind_some_ h
    unfold pvIndex at h
    split at h
    · rename_i ti k i cs ht _
      split at h
      · rename_i n e hd
        split at h
        · rename_i ei he
          split at h
          · rename_i h0
            split at h
            · rename_i hlt
              exact opv_index hT hop hu hv ht hd he h0 hlt h
            · cases h
          · cases h
        · cases h
      · cases h
    · cases h
  · rename_i t a hop
    obtain ⟨u, hu, h⟩ := bind_some_ h
    unfold pvOwn at h
    split at h
    · rename_i i id off ht
      split at h
      · rename_i cs e hH
        exact opv_load hT hop hu hH ht h
      · cases h
    · cases h
  · rename_i t parts hop
    obtain ⟨ps, hp, h⟩ := bind_some_ h
    cases hb : buildA T t ps with
    | none => rw [hb] at h; cases h
    | some ys => rw [hb] at h; cases h; exact opv_build hT hop hp hb
  · rename_i t a hop
    obtain ⟨u, hu, h⟩ := bind_some_ h
    split at h
    · rename_i hk
      cases h
      exact opv_box_ro hop hu hk
    · cases h
  · cases h

variable {all rest : List Oper} {Q : AEx → St → Prop} {tm : Nat → AV} {hp hp' : Heap} {n n' : Nat} {df : List Nat}
  {d : Nat} {op : Op} {ty : TypeId} {pos : String} {af : Array Edge} {j : Nat} {want : Bool} {x y : AV} {t : Nat}
theorem wx (hx : pvx T tm hp op = some x) (hd : d < N) (h : WL P B N m all rest Q ⟨upd tm d x, hp, n, df⟩) : WL P B N m all (⟨some d, op, ty, pos, af, none⟩ :: rest) Q ⟨tm, hp, n, df⟩ :=
  wl_op (o := ⟨some d, op, ty, pos, af, none⟩) (ung_none rfl) (fun _ h => by cases h; exact hd) (fun c h => by
    have h : op = .defer c := h
    rw [h] at hx; cases hx) (pvx_sound hT hx) h
theorem wxg (hg : gslot all j = some t) (ht : tm t = y) (hy : y = .bool want) (hx : pvx T tm hp op = some x) (hd : d < N) (h : WL P B N m all rest Q ⟨upd tm d x, hp, n, df⟩) : WL P B N m all (⟨some d, op, ty, pos, af, some (j, want)⟩ :: rest) Q ⟨tm, hp, n, df⟩ :=
  wl_op (o := ⟨some d, op, ty, pos, af, some (j, want)⟩) (by have := ung_some (o := ⟨some d, op, ty, pos, af, some (j, want)⟩) (tm := tm) rfl hg (ht.trans hy); simpa using this) (fun _ h => by cases h; exact hd) (fun c h => by
    have h : op = .defer c := h
    rw [h] at hx; cases hx) (pvx_sound hT hx) h

/-- What changes own memory. -/
def hvStore (T : TT) (h : Heap) (t : TypeId) (x y : AV) : Option Heap :=
  match T t, x with
  | some i, .ptr id off => match h id with
    | some (.cells cs e) => if (cellsA y).length = i.size then if off + i.size ≤ cs.length then if (cellsA y).all scalA = true then some (upd h id (some (.cells (wr cs off (cellsA y)) e))) else none else none else none
    | _ => none
  | _, _ => none
theorem w_store {a b : Operand} {u v : AV} {af : Array Edge} (hu : evo tm a = some u) (hv : evo tm b = some v) (hs : hvStore T hp t u v = some hp') (h : WL P B N m all rest Q ⟨tm, hp', n, df⟩) : WL P B N m all (⟨none, .store t a b, ty, pos, af, none⟩ :: rest) Q ⟨tm, hp, n, df⟩ := by
  unfold hvStore at hs
  split at hs
  · rename_i i id off ht
    split at hs
    · rename_i cs e hH
      split at hs
      · rename_i h1
        split at hs
        · rename_i h2
          split at hs
          · rename_i h3
            cases hs
            exact wl_op (o := ⟨none, .store t a b, ty, pos, af, none⟩) (ung_none rfl) (fun _ h => by cases h) (fun c h => by cases h) (opv_store hT rfl hu hv hH ht h1 h2 (by simpa [List.all_eq_true] using h3)) h
          · cases hs
        · cases hs
      · cases hs
    · cases hs
  · cases hs
theorem w_alloc {i : TI} (ht : T t = some i) (hd : d < N) (h : WL P B N m all rest Q ⟨upd tm d (.ptr n 0), upd hp n (some (.cells i.zero t)), n + 1, df⟩) : WL P B N m all (⟨some d, .alloc t, ty, pos, af, none⟩ :: rest) Q ⟨tm, hp, n, df⟩ :=
  wl_op (o := ⟨some d, .alloc t, ty, pos, af, none⟩) (ung_none rfl) (fun _ h => by cases h; exact hd) (fun c h => by cases h) (opv_alloc hT rfl ht) h
omit hT in
theorem w_box {a : Operand} (hx : evo tm a = some x) (hk : known x = true) (hd : d < N) (h : WL P B N m all rest Q ⟨upd tm d (.ptr n 0), upd hp n (some (.cells (cellsA x) t)), n + 1, df⟩) : WL P B N m all (⟨some d, .box t a, ty, pos, af, none⟩ :: rest) Q ⟨tm, hp, n, df⟩ :=
  wl_op (o := ⟨some d, .box t a, ty, pos, af, none⟩) (ung_none rfl) (fun _ h => by cases h; exact hd) (fun c h => by cases h) (opv_box rfl hx hk) h
omit hT in
/-- A call of a function that only computes, with a known answer. -/
theorem wcall {fo : Operand} {args : Array Operand} {ats : Array TypeId} {g : FuncId} {first cap xs : List AV} {X : AV → Prop} (hf : evo tm fo = some (.func (.func g) first cap)) (hx : evs tm args.toList = some xs) (hpf : PF P g (first ++ xs ++ cap) X) (hd : d < N)
    (h : ∀ x, X x → Pur x → WL P B N m all rest Q ⟨upd tm d x, hp, n, df⟩) : WL P B N m all (⟨some d, .call { callee := .value fo, args := args, argTypes := ats }, ty, pos, af, none⟩ :: rest) Q ⟨tm, hp, n, df⟩ :=
  wl_pcall (o := ⟨some d, .call { callee := .value fo, args := args, argTypes := ats }, ty, pos, af, none⟩) rfl (ung_none rfl) (fun _ h => by cases h; exact hd) hf hx (Subs.refl _) hpf h
omit hT in
theorem wcallg {fo : Operand} {args : Array Operand} {ats : Array TypeId} {g : FuncId} {first cap xs : List AV} {X : AV → Prop} (hg : gslot all j = some t) (ht : tm t = y) (hy : y = .bool want) (hf : evo tm fo = some (.func (.func g) first cap)) (hx : evs tm args.toList = some xs) (hpf : PF P g (first ++ xs ++ cap) X) (hd : d < N)
    (h : ∀ x, X x → Pur x → WL P B N m all rest Q ⟨upd tm d x, hp, n, df⟩) : WL P B N m all (⟨some d, .call { callee := .value fo, args := args, argTypes := ats }, ty, pos, af, some (j, want)⟩ :: rest) Q ⟨tm, hp, n, df⟩ :=
  wl_pcall (o := ⟨some d, .call { callee := .value fo, args := args, argTypes := ats }, ty, pos, af, some (j, want)⟩) rfl (by have := ung_some (o := ⟨some d, .call { callee := .value fo, args := args, argTypes := ats }, ty, pos, af, some (j, want)⟩) (tm := tm) rfl hg (ht.trans hy); simpa using this) (fun _ h => by cases h; exact hd) hf hx (Subs.refl _) hpf h
end

/-! loops: canonical states at the head -/
theorem Sub.any (x : AV) : Sub x .any := fun _ _ _ => .any _
/-- Values whose ids lie below 'm'. -/
inductive Low (m : Nat) : AV → Prop
  | pur {x : AV} (h : Pur x) : Low m x
  | ptr {id off : Nat} (h : id < m) : Low m (.ptr id off)
  | slice {id off len : Nat} {cap : Option Nat} {sz : Nat} (h : id < m) : Low m (.slice id off len cap sz)
  | map {id : Nat} (h : id < m) : Low m (.map id)
  | func {fn : Fn} {a b : List AV} (h1 : ∀ x, x ∈ a → Low m x) (h2 : ∀ x, x ∈ b → Low m x) : Low m (.func fn a b)
  | agg {cs : List AV} (h : ∀ x, x ∈ cs → Low m x) : Low m (.agg cs)
  | tuple {cs : List AV} (h : ∀ x, x ∈ cs → Low m x) : Low m (.tuple cs)
/-- The same context with fewer ids given. -/
def Ctx.cut (K : Ctx) (m : Nat) : Ctx := { K with next := m }
theorem VR.cut {K : Ctx} {m : Nat} {x : AV} {v : Value} (h : VR K x v) (hx : Low m x) : VR (K.cut m) x v := by
  induction h with
  | ptr h => cases hx with
    | pur h => cases h
    | ptr h => exact .ptr (K := K.cut m) h
  | slice h ho hc hl hcap => cases hx with
    | pur h => cases h
    | slice h => exact .slice (K := K.cut m) h ho hc hl hcap
  | map h => cases hx with
    | pur h => cases h
    | map h => exact .map (K := K.cut m) h
  | @func fn first captured fs cs hn h1 h2 hf hc ih1 ih2 => cases hx with
    | pur h => exact VR.pur (K := K) (K' := K.cut m) (fun _ h => h) (fun _ _ => rfl) (.func hn h1 h2 hf hc) h
    | func p1 p2 => exact .func hn h1 h2 (fun i x hx => ih1 i x hx (p1 x (List.mem_of_getElem? hx))) (fun i x hx => ih2 i x hx (p2 x (List.mem_of_getElem? hx)))
  | @agg cs vs h1 h ih => cases hx with
    | pur hp => exact VR.pur (K := K) (K' := K.cut m) (fun _ h => h) (fun _ _ => rfl) (.agg h1 h) hp
    | agg p => exact .agg h1 (fun i x hx => ih i x hx (p x (List.mem_of_getElem? hx)))
  | @tuple cs vs h1 h ih => cases hx with
    | pur hp => exact VR.pur (K := K) (K' := K.cut m) (fun _ h => h) (fun _ _ => rfl) (.tuple h1 h) hp
    | tuple p => exact .tuple h1 (fun i x hx => ih i x hx (p x (List.mem_of_getElem? hx)))
  | bool b => exact .bool b
  | int k n => exact .int k n
  | str s => exact .str s
  | @view rows a c esz f hc hl ha hv ih => cases hx with
    | pur hp => exact VR.pur (K := K) (K' := K.cut m) (fun _ h => h) (fun _ _ => rfl) (.view f hc hl ha hv) hp
  | empty a => exact .empty a
  | @vptr cells blk off f hr hc hv ih => cases hx with
    | pur hp => exact VR.pur (K := K) (K' := K.cut m) (fun _ h => h) (fun _ _ => rfl) (.vptr f hr hc hv) hp
  | nilptr => exact .nilptr
  | yieldf h => cases hx with
    | pur h => cases h
  | nilFunc => exact .nilFunc
  | @iface t x v h ih => cases hx with
    | pur hp => exact VR.pur (K := K) (K' := K.cut m) (fun _ h => h) (fun _ _ => rfl) (.iface h) hp
  | nilIface => exact .nilIface
  | any v => exact .any v
end Go.Lg

/- Canonical states: slots and own memory as lists, ids given anew; loops; functions that only compute, from id 0 on. -/
set_option linter.unusedVariables false
set_option linter.unusedSimpArgs false
set_option linter.unusedSectionVars false
namespace Go.Lg
open Go

/-- The ids named anew: the new id 'i' is the old id 'r[i]'. -/
def Ctx.ren (K : Ctx) (r : List Nat) : Ctx :=
  { K with base := fun i => K.base (r.getD i i), boff := fun i => K.boff (r.getD i i), bsz := fun i => K.bsz (r.getD i i), next := r.length }
def SubR (r : List Nat) (x y : AV) : Prop := ∀ K v, VR K x v → VR (K.ren r) y v
inductive SubRs (r : List Nat) : List AV → List AV → Prop
  | nil : SubRs r [] []
  | cons {x y : AV} {xs ys : List AV} (h : SubR r x y) (hs : SubRs r xs ys) : SubRs r (x :: xs) (y :: ys)
section subr
variable {r : List Nat}
theorem SubR.any (x : AV) : SubR r x .any := fun _ v _ => .any v
theorem SubR.pur {x : AV} (h : Pur x) : SubR r x x := fun K _ hv => VR.pur (K := K) (K' := K.ren r) (fun _ h => h) (fun _ _ => rfl) hv h
theorem SubR.ptr {i j off : Nat} (h : r[i]? = some j) : SubR r (.ptr j off) (.ptr i off) := fun K v hv => by
  obtain ⟨rfl, _⟩ := hv.ptr_inv
  have hi := (List.getElem?_eq_some_iff.1 h).1
  have e : r.getD i i = j := by simp [h]
  have := VR.ptr (K := K.ren r) (id := i) (off := off) hi
  simpa [Ctx.ren, h] using this
theorem SubR.slice {i j off len : Nat} {cap cap' : Option Nat} {sz : Nat} (h : r[i]? = some j) (hc : cap' = cap ∨ cap' = none) : SubR r (.slice j off len cap sz) (.slice i off len cap' sz) := fun K v hv => by
  have hi := (List.getElem?_eq_some_iff.1 h).1
  have e : r.getD i i = j := by simp [h]
  cases hv with
  | @slice _ _ _ _ _ o c hid ho hcc hl hcap =>
    have h2 : VR (K.ren r) (.slice i off len cap' sz) (.slice (some ⟨(K.ren r).base i, o, none⟩) len c) := .slice (K := K.ren r) hi (by simpa [Ctx.ren, h] using ho) (by simpa [Ctx.ren, h] using hcc) hl (fun c0 h0 => by
      rcases hc with rfl | rfl
      · exact hcap c0 h0
      · cases h0)
    simpa [Ctx.ren, h] using h2
theorem SubR.mapv {i j : Nat} (h : r[i]? = some j) : SubR r (.map j) (.map i) := fun K v hv => by
  have hi := (List.getElem?_eq_some_iff.1 h).1
  have e : r.getD i i = j := by simp [h]
  cases hv with
  | map hid =>
    have := VR.map (K := K.ren r) (id := i) hi
    simpa [Ctx.ren, h] using this
theorem SubRs.VRs {xs ys : List AV} (h : SubRs r xs ys) {K : Ctx} : ∀ {vs : List Value}, Lg.VRs K xs vs → Lg.VRs (K.ren r) ys vs := by
  induction h with
  | nil => exact fun h => ⟨h.1, by simp⟩
  | cons h hs ih =>
    intro vs hv
    cases vs with
    | nil => have := hv.1; simp at this
    | cons v vs => exact .cons (h K v hv.head) (ih hv.tail)
theorem SubR.agg {xs ys : List AV} (h : SubRs r xs ys) : SubR r (.agg xs) (.agg ys) := fun K v hv => by
  obtain ⟨vs, rfl, hvs⟩ := hv.agg_inv
  exact VR.agg_.2 (h.VRs hvs)
theorem SubR.func {fn : Fn} {xs ys as bs : List AV} (h : SubRs r xs ys) (h' : SubRs r as bs) : SubR r (.func fn xs as) (.func fn ys bs) := fun K v hv => by
  cases hv with
  | @func _ _ _ fs cs hn h1 h2 hf hc =>
    have g1 : VRs K xs fs.toList := VR.agg_.1 (.agg h1 hf)
    have g2 : VRs K as cs.toList := VR.agg_.1 (.agg h2 hc)
    exact VRs.func hn (h.VRs g1) (h'.VRs g2)
end subr

/-- Own memory as a list. -/
def hl (l : List (Option Blk)) : Heap := fun i => l.getD i none
theorem hl_nil (i : Nat) : hl [] i = none := rfl
theorem hl_zero (b : Option Blk) (l : List (Option Blk)) : hl (b :: l) 0 = b := rfl
theorem hl_succ (b : Option Blk) (l : List (Option Blk)) (i : Nat) : hl (b :: l) (i + 1) = hl l i := rfl
inductive SubB (r : List Nat) : Blk → Blk → Prop
  | cells {xs ys : List AV} {e : TypeId} (h : SubRs r xs ys) : SubB r (.cells xs e) (.cells ys e)
  | deferred : SubB r .deferred .deferred
  | loop {l : LoopB} {tm : Nat → AV} (h : ∀ t, SubR r (l.tm t) (tm t)) : SubB r (.loop l) (.loop { l with tm })
  | map {es : List (AV × AV)} (h : ∀ p, p ∈ es → Pur p.1 ∧ Pur p.2) : SubB r (.map es) (.map es)
theorem SubRs.get {r : List Nat} {xs ys : List AV} (h : SubRs r xs ys) : xs.length = ys.length ∧ ∀ (i : Nat) y, ys[i]? = some y → ∃ x, xs[i]? = some x ∧ SubR r x y := by
  induction h with
  | nil => exact ⟨rfl, by simp⟩
  | cons h hs ih =>
    refine ⟨by simp [ih.1], fun i y hy => ?_⟩
    cases i with
    | zero => simp at hy; subst hy; exact ⟨_, rfl, h⟩
    | succ i => simp at hy ⊢; exact ih.2 i y hy
def fitsR (r : List Nat) (tm : Nat → AV) : Nat → List AV → Prop
  | _, [] => True
  | k, x :: l => SubR r (tm k) x ∧ fitsR r tm (k + 1) l
def fitsH (r : List Nat) (H : Heap) : Nat → List (Option Blk) → Prop
  | _, [] => True
  | k, none :: l => fitsH r H (k + 1) l
  | k, some b :: l => (∃ j b0, r[k]? = some j ∧ H j = some b0 ∧ SubB r b0 b) ∧ fitsH r H (k + 1) l
theorem fitsR_get {r : List Nat} {tm : Nat → AV} : ∀ {l : List AV} {k : Nat}, fitsR r tm k l → ∀ (i : Nat) x, l[i]? = some x → SubR r (tm (k + i)) x
  | y :: l, k, h, 0, x, hx => by simp at hx; subst hx; exact h.1
  | y :: l, k, h, i + 1, x, hx => by have := fitsR_get h.2 i x (by simpa using hx); rwa [show k + 1 + i = k + (i + 1) from by omega] at this
theorem fitsH_get {r : List Nat} {H : Heap} : ∀ {l : List (Option Blk)} {k : Nat}, fitsH r H k l → ∀ (i : Nat) b, l[i]? = some (some b) → ∃ j b0, r[k + i]? = some j ∧ H j = some b0 ∧ SubB r b0 b
  | none :: l, k, h, 0, b, hx => by simp at hx
  | some c :: l, k, h, 0, b, hx => by simp at hx; subst hx; exact h.1
  | none :: l, k, h, i + 1, b, hx => by have := fitsH_get (k := k + 1) h i b (by simpa using hx); rwa [show k + 1 + i = k + (i + 1) from by omega] at this
  | some c :: l, k, h, i + 1, b, hx => by have := fitsH_get h.2 i b (by simpa using hx); rwa [show k + 1 + i = k + (i + 1) from by omega] at this

/-- The state can be told as these lists. -/
structure Canon (N m : Nat) (σ : St) (l : List AV) (hs : List (Option Blk)) (df : List Nat) : Prop where
  len : l.length = N
  fit : ∃ r : List Nat, r.length = hs.length ∧ r.Nodup ∧ m ≤ r.length ∧ (∀ i, i < m → r[i]? = some i) ∧ fitsR r σ.tm 0 l ∧ fitsH r σ.h 0 hs ∧ df.map (fun i => r[i]?) = σ.df.map some
def St.of (l : List AV) (hs : List (Option Blk)) (df : List Nat) : St := ⟨args0 l, hl hs, hs.length, df⟩
theorem DR.ren {K : Ctx} {H H' : Heap} {r : List Nat} : ∀ {df df0 : List Nat} {ds : List Deferred}, df.map (fun i => r[i]?) = df0.map some → DR K H df0 ds → DR (K.ren r) H' df ds
  | [], [], _, _, h => h
  | [], _ :: _, _, e, _ => by cases e
  | _ :: _, [], _, e, _ => by cases e
  | i :: df, j :: df0, ds, e, h => by
    simp only [List.map_cons, List.cons.injEq] at e
    obtain ⟨ds', h1, h2, h3⟩ := h
    refine ⟨ds', ?_, (List.getElem?_eq_some_iff.1 e.1).1, DR.ren e.2 h3⟩
    rw [h1]; simp [Ctx.ren, e.1]
theorem hl_ne {hs : List (Option Blk)} {i : Nat} {b : Blk} : hl hs i = some b ↔ hs[i]? = some (some b) := by
  unfold hl
  rw [List.getD_eq_getElem?_getD]
  cases hs[i]? with
  | none => simp
  | some c => simp
theorem Canon.ok {N m : Nat} {σ : St} {l : List AV} {hs : List (Option Blk)} {df : List Nat} (h : Canon N m σ l hs df) : ∀ K a, m ≤ K.next → SR K N σ a → ∃ K1, K1.w = K.w ∧ SR K1 N (St.of l hs df) a ∧ StM m K σ.h K1 (St.of l hs df).h := by
  intro K a hm hsr
  obtain ⟨r, hrl, hnd, hmr, hid, hf, hh, hdf⟩ := h.fit
  have key : ∀ i, hl hs i ≠ none → ∃ j b0 b, hl hs i = some b ∧ r[i]? = some j ∧ r.getD i i = j ∧ σ.h j = some b0 ∧ SubB r b0 b := by
    intro i hi
    cases hb : hl hs i with
    | none => exact absurd hb hi
    | some b =>
      obtain ⟨j, b0, h1, h2, h3⟩ := fitsH_get hh i b (hl_ne.1 hb)
      rw [Nat.zero_add] at h1
      exact ⟨j, b0, b, rfl, h1, by simp [h1], h2, h3⟩
  have hrel : Rel (K.ren r) (hl hs) := by
    refine ⟨fun i hi => ?_, fun i hi => ?_, fun i b hb => ?_, fun i j hi hj e => ?_, hsr.rel.ros⟩
    · obtain ⟨j, b0, b, _, h1, _⟩ := key i hi; exact (List.getElem?_eq_some_iff.1 h1).1
    · obtain ⟨j, b0, b, _, h1, h2, h3, _⟩ := key i hi
      show ¬ K.ro (K.base (r.getD i i))
      rw [h2]; exact hsr.rel.nro j (by rw [h3]; simp)
    · obtain ⟨j, b0, b', hb', h1, h2, h3, h4⟩ := key i (by rw [hb]; simp)
      rw [hb] at hb'; cases hb'
      cases h4 with
      | @cells xs ys e hxy =>
        obtain ⟨arr, fr, ha, ht, hz, hlen, hv⟩ := hsr.rel.br j _ h3
        obtain ⟨g1, g2⟩ := hxy.get
        refine ⟨arr, fr, ?_, ht, ?_, ?_, fun k y hy => ?_⟩
        · show K.w.heap[K.base (r.getD i i)]? = _; rw [h2]; exact ha
        · show arr.size = K.bsz (r.getD i i); rw [h2]; exact hz
        · show K.boff (r.getD i i) + ys.length ≤ arr.size; rw [h2, ← g1]; exact hlen
        · obtain ⟨x, hx, hxy'⟩ := g2 k y hy
          obtain ⟨v, hv1, hv2⟩ := hv k x hx
          exact ⟨v, by show arr[K.boff (r.getD i i) + k]? = _; rw [h2]; exact hv1, hxy' K v hv2⟩
      | deferred =>
        have := hsr.rel.br j _ h3
        show K.w.heap[K.base (r.getD i i)]? = _
        rw [h2]; exact this
      | @loop l tm hxy =>
        obtain ⟨fn, tmps, defers, ha, ht⟩ := hsr.rel.br j _ h3
        refine ⟨fn, tmps, defers, ?_, ht.1, fun t => hxy t K _ (ht.2 t)⟩
        show K.w.heap[K.base (r.getD i i)]? = _
        rw [h2]; exact ha
      | @map es hp =>
        obtain ⟨arr, clock, ha, hz, hv⟩ := hsr.rel.br j _ h3
        refine ⟨arr, clock, ?_, hz, fun k p hk => ?_⟩
        · show K.w.heap[K.base (r.getD i i)]? = _; rw [h2]; exact ha
        · obtain ⟨m, hm, g1, g2⟩ := hv k p hk
          obtain ⟨p1, p2⟩ := hp p (List.mem_of_getElem? hk)
          exact ⟨m, hm, VR.pur (K := K) (K' := K.ren r) (fun _ h => h) (fun _ _ => rfl) g1 p1, VR.pur (K := K) (K' := K.ren r) (fun _ h => h) (fun _ _ => rfl) g2 p2⟩
    · obtain ⟨i', b0, b, _, h1, h2, h3, _⟩ := key i hi
      obtain ⟨j', c0, c, _, g1, g2, g3, _⟩ := key j hj
      have e : K.base (r.getD i i) = K.base (r.getD j j) := e
      rw [h2, g2] at e
      have := hsr.rel.inj i' j' (by rw [h3]; simp) (by rw [g3]; simp) e
      subst this
      obtain ⟨hi', e1⟩ := List.getElem?_eq_some_iff.1 h1
      obtain ⟨hj', e2⟩ := List.getElem?_eq_some_iff.1 g1
      exact (List.getElem_inj hnd (h₀ := hi') (h₁ := hj')).1 (e1.trans e2.symm)
  refine ⟨K.ren r, rfl, ⟨hrl, hrel, ⟨hsr.tr.1, fun t => ?_⟩, ?_⟩, ⟨hm, hmr, fun i hi => ?_, fun _ h => h, Nat.le_refl _, fun _ _ _ => rfl, fun b hb => ?_, fun b hb => .inl hb, rfl, rfl, rfl⟩⟩
  · show VR _ (args0 l t) _
    by_cases ht : t < N
    · have hx : l[t]? = some (l[t]'(by rw [h.len]; exact ht)) := List.getElem?_eq_getElem _
      have h1 := fitsR_get hf t _ hx
      rw [Nat.zero_add] at h1
      have h2 := h1 K _ (hsr.tr.2 t)
      simpa [args0, hx] using h2
    · have hx : l[t]? = none := List.getElem?_eq_none (by rw [h.len]; omega)
      have h2 : a.tmps.getD t undef = undef := by
        rw [Array.getD_eq_getD_getElem?, Array.getElem?_eq_none (by rw [hsr.tr.1]; omega)]; rfl
      simp only [args0, List.getD_eq_getElem?_getD, hx, Option.getD_none, h2]
      exact VR.undef_ _
  · exact DR.ren hdf hsr.dr
  · have := hid i hi
    simp [Ctx.ren, this]
  · obtain ⟨i, hi, rfl⟩ := hb
    obtain ⟨j, b0, b, _, h1, h2, h3, _⟩ := key i hi
    exact .inl ⟨j, by rw [h3]; simp, by show K.base j = K.base (r.getD i i); rw [h2]⟩

section
variable {P : Program} {B : Fb → Prop} {N m : Nat} {Q : AEx → St → Prop} {σ : St}
/-- A point where the state is told anew. -/
theorem w_cut {c : Code} (l : List AV) (hs : List (Option Blk)) (df : List Nat) (hc : Canon N m σ l hs df) (h : W P B N m c Q (St.of l hs df)) : W P B N m c Q σ := W.ghostM hc.ok h
/-- A loop over data 's', with a measure. -/
theorem w_loopA {S : Type} {c : Code} (L : S → List AV) (Hs : S → List (Option Blk)) (df : List Nat) (Inv : S → Prop) (meas : S → Nat) (s0 : S) (h0 : Canon N m σ (L s0) (Hs s0) df) (hi : Inv s0)
    (round : ∀ s, Inv s → W P B N m c (AEx.go (fun σ' => ∃ s', meas s' < meas s ∧ Inv s' ∧ Canon N m σ' (L s') (Hs s') df) Q) (St.of (L s) (Hs s) df)) : W P B N m (.loop c) Q σ := by
  refine w_loop (fun n σ => ∃ s, meas s = n ∧ Inv s ∧ Canon N m σ (L s) (Hs s) df) (meas s0) ⟨s0, rfl, hi, h0⟩ ?_
  rintro n σ' ⟨s, rfl, his, hc⟩
  refine W.ghostM hc.ok ((round s his).mono ?_)
  intro e σ2 hq
  cases e with
  | normal => obtain ⟨s', h1, h2, h3⟩ := hq; exact ⟨meas s', h1, s', rfl, h2, h3⟩
  | _ => exact hq
end

/-- A function that only computes, by its body, the ids from 0 on. -/
theorem pf_of_w0 {P : Program} {f : FuncId} {fn : Func} {c : Code} {args : List AV} {X : AV → Prop} (hf : P.funcs[f]? = some fn) (hb : fn.body = some c) (hn : (fn.name == "runtime.NumGoroutine") = false) (hN : args.length ≤ fn.ntmps) (ha : ∀ x, x ∈ args → Pur x)
    (h : W P Plain fn.ntmps 0 c (DoneP P fn X) ⟨args0 args, hl [], 0, []⟩) : PF P f args X := by
  refine ⟨⟨fn, hf, hn, by rw [hb]; rfl⟩, fun n => ?_⟩
  have h0 : AC P f args (hl []) 0 fun r _ _ => ∃ x, r = .ret x ∧ Pur x ∧ X x := ac_of_w hf hb hN (h.mono (by
    rintro e σ hq
    cases e with
    | normal => obtain ⟨h1, x, h2, h3, h4⟩ := hq; exact ⟨h1, x, h2, x, rfl, h3, h4⟩
    | ret => obtain ⟨h1, x, h2, h3, h4⟩ := hq; exact ⟨h1, x, h2, x, rfl, h3, h4⟩
    | _ => exact hq.elim))
  intro K vs hn hr hv
  have hv0 : VRs (K.cut 0) args vs.toList := ⟨hv.1, fun i x v hx hu => VR.pur (K := K) (K' := K.cut 0) (fun _ h => h) (fun _ _ => rfl) (hv.2 i x v hx hu) (ha x (List.mem_of_getElem? hx))⟩
  have hr0 : Rel (K.cut 0) (hl []) := ⟨fun _ h => absurd rfl h, fun _ h => absurd rfl h, fun _ _ h => by simp [hl] at h, fun _ _ h => absurd rfl h, hr.ros⟩
  refine (h0 (K.cut 0) vs rfl hr0 hv0).mono ?_
  rintro e w' ⟨K', H1, r, rfl, hr', hst, hrr, x, rfl, hp, hX⟩
  let K2 : Ctx := { base := K.base, boff := K.boff, bsz := K.bsz, next := K.next, ro := K'.ro, w := K'.w }
  have hsame : ∀ b, b < K.w.heap.size → K'.w.heap[b]? = K.w.heap[b]? := fun b hb => hst.same b hb (fun ⟨id, h1, _⟩ => h1 rfl)
  refine ⟨K2, noHeap, .ret x, rfl, ⟨fun _ h => absurd rfl h, fun _ h => absurd rfl h, fun _ _ h => by simp [noHeap] at h, fun _ _ h => absurd rfl h, hr'.ros⟩, ⟨Nat.le_refl _, fun _ _ => ⟨rfl, rfl, rfl⟩, hst.ro, hst.size, fun b hb _ => hsame b hb, fun b ⟨_, h, _⟩ => absurd rfl h, fun b hb => ?_, hst.os, hst.tape, hst.output⟩, ?_, x, rfl, hp, hX⟩
  · rcases hst.ro' b hb with h1 | ⟨id, h1, _⟩ | h1
    · exact .inl h1
    · exact absurd rfl h1
    · exact .inr (.inr h1)
  · cases hrr with
    | ret hv => exact .ret (VR.pur (K := K') (K' := K2) (fun _ h => h) (fun _ _ => rfl) hv hp)
end Go.Lg

/- The type table, out of the program's own. -/
set_option linter.unusedVariables false
set_option linter.unusedSimpArgs false
set_option linter.unusedSectionVars false
namespace Go.Lg
open Go

def zeros : List Value → Option (List AV)
  | [] => some []
  | v :: r => match cval v, zeros r with
    | some x, some xs => some (x :: xs)
    | _, _ => none
theorem zeros_sound {K : Ctx} : ∀ {vs : List Value} {xs : List AV}, zeros vs = some xs → VRs K xs vs
  | [], xs, h => by cases h; exact VRs.nil K
  | v :: r, xs, h => by
    unfold zeros at h
    split at h
    · rename_i x xs' h1 h2
      cases h
      exact .cons (cval_sound h1) (zeros_sound h2)
    · cases h
def isAggV : Value → Bool
  | .agg _ => true
  | _ => false
def tyI (d : TypeDesc) (ti : TypeInfo) : Option TI :=
  match ti.zero with
  | some z => match zeros z.cells.toList with
    | some zs => if z.cells.size = ti.size then if (isAggD d == isAggV z) = true then some ⟨d, ti.size, ti.bytes, zs⟩ else none else none
    | none => none
  | none => none
def tyOf (P : Program) : TT := fun t => match P.underlying t, P.info? t with
  | some d, some ti => tyI d ti
  | _, _ => none
theorem tok (P : Program) : TOK P (tyOf P) where
  und := fun t i h => by
    unfold tyOf at h
    split at h
    · rename_i d ti h1 h2
      unfold tyI at h
      split at h
      · split at h
        · split at h
          · split at h
            · cases h; exact h1
            · cases h
          · cases h
        · cases h
      · cases h
    · cases h
  info := fun t i h => by
    unfold tyOf at h
    split at h
    · rename_i d ti h1 h2
      unfold tyI at h
      split at h
      · rename_i z hz
        split at h
        · rename_i zs hzs
          split at h
          · rename_i hsz
            split at h
            · rename_i hag
              cases h
              refine ⟨ti, z, h2, rfl, rfl, hz, hsz, fun ha => ?_, fun K => zeros_sound hzs⟩
              have ha : isAggD d = true := ha
              rw [ha] at hag
              cases z <;> first | rfl | (simp [isAggV] at hag)
            · cases h
          · cases h
        · cases h
      · cases h
    · cases h
  nagg := fun t i h ha => by
    unfold tyOf at h
    split at h
    · rename_i d ti h1 h2
      unfold tyI at h
      split at h
      · rename_i z hz
        split at h
        · rename_i zs hzs
          split at h
          · rename_i hsz
            split at h
            · rename_i hag
              cases h
              refine ⟨ti, z, h2, hz, ?_⟩
              have ha : isAggD d = false := ha
              rw [ha] at hag
              cases z <;> first | rfl | (simp [isAggV] at hag)
            · cases h
          · cases h
        · cases h
      · cases h
    · cases h
theorem tyOf_eq {P : Program} {t : TypeId} {d : TypeDesc} {ti : TypeInfo} {i : TI} (hu : P.underlying t = some d) (ht : P.types[t]? = some ti) (h : tyI d ti = some i) : tyOf P t = some i := by
  have h2 : P.info? t = some ti := by
    have hlt : t < P.types.size := (Array.getElem?_eq_some_iff.1 ht).1
    unfold Tables.info?; rw [if_pos hlt]; exact ht
  simp only [tyOf, hu, h2, h]
end Go.Lg

/- Regions that draw their order: one walk in the text's order serves every order. -/
set_option linter.unusedVariables false
set_option linter.unusedSimpArgs false
set_option linter.unusedSectionVars false
namespace Go.Lg
open Go

/-! orders -/
inductive Ord (ops : Array Oper) : (Nat → Prop) → List Nat → Prop
  | nil {D : Nat → Prop} (h : ∀ i, i < ops.size → D i) : Ord ops D []
  | cons {D : Nat → Prop} {i : Nat} {o : Oper} {l : List Nat} (hi : ops[i]? = some o) (hn : ¬ D i) (he : ∀ e, e ∈ o.after.toList → Region.binds .any e = true → D e.on) (h : Ord ops (fun j => D j ∨ j = i) l) : Ord ops D (i :: l)
def backEdges (ops : List Oper) : Bool := (ops.zipIdx).all fun p => p.1.after.toList.all fun e => !Region.binds .any e || decide (e.on < p.2)
theorem backEdges_spec {ops : List Oper} (h : backEdges ops = true) {i : Nat} {o : Oper} (ho : ops[i]? = some o) {e : Edge} (he : e ∈ o.after.toList) (hb : Region.binds .any e = true) : e.on < i := by
  unfold backEdges at h
  rw [List.all_eq_true] at h
  have hm : (o, i) ∈ ops.zipIdx := by
    rw [List.mem_iff_getElem?]
    exact ⟨i, by rw [List.getElem?_zipIdx, ho]; simp⟩
  have := h _ hm
  rw [List.all_eq_true] at this
  have := this e he
  simp only [hb, Bool.not_true, Bool.false_or, decide_eq_true_eq] at this
  exact this
theorem Ord.congr {ops : Array Oper} {D D' : Nat → Prop} {l : List Nat} (h : Ord ops D l) (hd : ∀ i, D i ↔ D' i) : Ord ops D' l := by
  have : D = D' := funext fun i => propext (hd i)
  exact this ▸ h
theorem go_ord {ops : Array Oper} (hb : backEdges ops.toList = true) : ∀ (fuel t : Nat) (listed : Array Bool) (acc : List Nat), listed.size = ops.size → (∃ S : List Nat, S.Nodup ∧ (∀ i, i ∈ S ↔ listed[i]? = some false) ∧ S.length ≤ fuel) →
    ∃ l, Region.linearise.go .any ops fuel t listed acc = acc.reverse ++ l ∧ Ord ops (fun i => listed[i]? = some true) l
  | 0, t, listed, acc, hs, ⟨S, hS, hS2, hS3⟩ => by
    refine ⟨[], by simp [Region.linearise.go], .nil fun i hi => ?_⟩
    have hSn : S = [] := List.eq_nil_of_length_eq_zero (by omega)
    have hi' : i < listed.size := by omega
    have h1 : listed[i]? = some listed[i] := Array.getElem?_eq_getElem hi'
    cases hv : listed[i] with
    | true => rw [h1, hv]
    | false => have := (hS2 i).2 (by rw [h1, hv]); rw [hSn] at this; simp at this
  | fuel + 1, t, listed, acc, hs, ⟨S, hS, hS2, hS3⟩ => by
    unfold Region.linearise.go
    generalize hrs : ((List.range ops.size).filter fun i => !listed.getD i true && ((ops[i]?).map (·.after.all fun e => !Region.binds .any e || listed.getD e.on false)).getD false) = rs
    have hmem : ∀ i, i ∈ rs → ∃ o, ops[i]? = some o ∧ listed[i]? = some false ∧ ∀ e, e ∈ o.after.toList → Region.binds .any e = true → listed[e.on]? = some true := by
      intro i hi
      rw [← hrs, List.mem_filter, List.mem_range] at hi
      obtain ⟨hlt, hi⟩ := hi
      rw [Bool.and_eq_true] at hi
      have hlt' : i < listed.size := by omega
      refine ⟨ops[i], Array.getElem?_eq_getElem hlt, ?_, fun e he hbe => ?_⟩
      · have h1 : listed[i]? = some listed[i] := Array.getElem?_eq_getElem hlt'
        have h2 := hi.1
        rw [Array.getD_eq_getD_getElem?, h1] at h2
        simp at h2
        rw [h1, h2]
      · have h2 := hi.2
        rw [Array.getElem?_eq_getElem hlt] at h2
        simp only [Option.map_some, Option.getD_some] at h2
        rw [Array.all_eq_true'] at h2
        have := h2 e (by simpa using he)
        rw [hbe] at this
        simp only [Bool.not_true, Bool.false_or] at this
        rw [Array.getD_eq_getD_getElem?] at this
        cases hh : listed[e.on]? with
        | none => rw [hh] at this; simp at this
        | some b => rw [hh] at this; simp at this; rw [this]
    cases hr : rs[t % rs.length]? with
    | none =>
      have hemp : rs = [] := by
        cases hc : rs with
        | nil => rfl
        | cons a r =>
          have : t % rs.length < rs.length := Nat.mod_lt _ (by rw [hc]; simp)
          rw [List.getElem?_eq_getElem this] at hr; cases hr
      refine ⟨[], by dsimp only; rw [hr]; simp, .nil fun i hi => ?_⟩
      have hi' : i < listed.size := by omega
      -- the least one not listed would be ready
      have key : ∀ k, ∀ i, i < k → i < ops.size → listed[i]? = some true := by
        intro k
        induction k with
        | zero => intro i hi; omega
        | succ k ih =>
          intro i hik hio
          by_cases hlt : i < k
          · exact ih i hlt hio
          · have e : i = k := by omega
            subst e
            have hi' : i < listed.size := by omega
            have h1 : listed[i]? = some listed[i] := Array.getElem?_eq_getElem hi'
            cases hv : listed[i] with
            | true => rw [h1, hv]
            | false =>
              exfalso
              have : i ∈ rs := by
                rw [← hrs, List.mem_filter, List.mem_range]
                refine ⟨hio, ?_⟩
                rw [Bool.and_eq_true]
                refine ⟨by rw [Array.getD_eq_getD_getElem?, h1, hv]; rfl, ?_⟩
                rw [Array.getElem?_eq_getElem hio]
                simp only [Option.map_some, Option.getD_some]
                rw [Array.all_eq_true']
                intro e he
                cases hbe : Region.binds .any e with
                | false => simp
                | true =>
                  have hlt := backEdges_spec hb (i := i) (o := ops[i]) (by simp) (e := e) (by simpa using he) hbe
                  have := ih e.on hlt (by omega)
                  simp [Array.getD_eq_getD_getElem?, this]
              rw [hemp] at this; simp at this
      exact key (i + 1) i (by omega) hi
    | some i =>
      obtain ⟨o, ho, hnl, hedge⟩ := hmem i (List.mem_of_getElem? hr)
      have hil : i < listed.size := (Array.getElem?_eq_some_iff.1 hnl).1
      have hset : ∀ j, (listed.setIfInBounds i true)[j]? = if j = i then some true else listed[j]? := by
        intro j
        rw [Array.getElem?_setIfInBounds]
        by_cases e : i = j
        · subst e; simp [hil]
        · rw [if_neg e, if_neg (Ne.symm e)]
      obtain ⟨l, h1, h2⟩ := go_ord hb fuel (t / rs.length) (listed.setIfInBounds i true) (i :: acc) (by simpa using hs) ⟨S.erase i, hS.erase i, fun j => by
        rw [hS.mem_erase_iff, hset, hS2]
        by_cases e : j = i
        · subst e; simp
        · simp [e], by
        rw [List.length_erase_of_mem ((hS2 i).2 hnl)]; omega⟩
      refine ⟨i :: l, by dsimp only; rw [hr]; dsimp only; rw [h1]; simp, .cons ho (by rw [hnl]; simp) hedge (h2.congr fun j => ?_)⟩
      rw [hset]
      by_cases e : j = i
      · subst e; simp
      · simp [e]
theorem linearise_ord {ops : Array Oper} (hb : backEdges ops.toList = true) (t : Nat) : Ord ops (fun _ => False) (Region.linearise .any ops t) := by
  obtain ⟨l, h1, h2⟩ := go_ord hb ops.size t (Array.replicate ops.size false) [] (by simp) ⟨List.range ops.size, List.nodup_range, fun i => by
    rw [List.mem_range, Array.getElem?_replicate]
    by_cases h : i < ops.size <;> simp [h], by simp⟩
  unfold Region.linearise
  rw [h1]
  simp only [List.reverse_nil, List.nil_append]
  refine h2.congr fun i => ?_
  rw [Array.getElem?_replicate]
  by_cases h : i < ops.size <;> simp [h]
theorem sched_any {ops : Array Oper} (t : Nat) : Region.schedule true ops t = Region.linearise .any ops t := by simp [Region.schedule]

/-! what an operation reads and writes -/
def rdOf : List Operand → List Tmp
  | [] => []
  | .tmp t :: r => t :: rdOf r
  | _ :: r => rdOf r
theorem mem_rdOf {t : Tmp} : ∀ {l : List Operand}, Operand.tmp t ∈ l → t ∈ rdOf l
  | x :: r, h => by
    rcases List.mem_cons.1 h with h1 | h1
    · subst h1; simp [rdOf]
    · cases x <;> simp [rdOf, mem_rdOf h1]
/-- The slots that an operation reads (its guard's too). -/
def rd (all : List Oper) (o : Oper) : List Tmp := (match o.guard with
  | some (j, _) => (gslot all j).toList
  | none => []) ++ rdOf o.op.operands.toList
def must (ops : List Oper) : Nat → Nat → Nat → Bool
  | 0, _, _ => false
  | f + 1, i, j => match ops[j]? with
    | some o => o.after.toList.any fun e => Region.binds .any e && (Nat.beq e.on i || must ops f i e.on)
    | none => false
/-- Every two that touch a slot which one of them writes stand in order. -/
def drawOk (ops : List Oper) : Bool := backEdges ops && ops.zipIdx.all fun p => (p.1.dst.toList ++ rd ops p.1).all fun t => ops.zipIdx.all fun q =>
  match q.1.dst with
  | some d => !(Nat.beq d t) || Nat.beq q.2 p.2 || must ops 3 q.2 p.2 || must ops 3 p.2 q.2
  | none => true
theorem must_lt {ops : List Oper} (hb : backEdges ops = true) : ∀ (f i j : Nat), must ops f i j = true → i < j
  | 0, _, _, h => by cases h
  | f + 1, i, j, h => by
    unfold must at h
    split at h
    · rename_i o ho
      rw [List.any_eq_true] at h
      obtain ⟨e, he, h⟩ := h
      rw [Bool.and_eq_true, Bool.or_eq_true] at h
      have hlt := backEdges_spec hb ho he h.1
      rcases h.2 with h1 | h1
      · have := Nat.eq_of_beq_eq_true h1; omega
      · have := must_lt hb f i e.on h1; omega
    · cases h
def Down (ops : List Oper) (D : Nat → Prop) : Prop := ∀ j, D j → ∀ o, ops[j]? = some o → ∀ e, e ∈ o.after.toList → Region.binds .any e = true → D e.on
theorem must_in {ops : List Oper} {D : Nat → Prop} (hd : Down ops D) : ∀ (f i j : Nat), must ops f i j = true → (∀ o, ops[j]? = some o → ∀ e, e ∈ o.after.toList → Region.binds .any e = true → D e.on) → D i
  | 0, _, _, h, _ => by cases h
  | f + 1, i, j, h, hj => by
    unfold must at h
    split at h
    · rename_i o ho
      rw [List.any_eq_true] at h
      obtain ⟨e, he, h⟩ := h
      rw [Bool.and_eq_true, Bool.or_eq_true] at h
      have h0 := hj o ho e he h.1
      rcases h.2 with h1 | h1
      · have := Nat.eq_of_beq_eq_true h1; rw [← this]; exact h0
      · exact must_in hd f i e.on h1 (hd e.on h0)
    · cases h
theorem drawOk_spec {ops : List Oper} (h : drawOk ops = true) {i j : Nat} {p q : Oper} (hp : ops[i]? = some p) (hq : ops[j]? = some q) {t : Tmp} (ht : p.dst = some t ∨ t ∈ rd ops p) (hd : q.dst = some t) : j = i ∨ must ops 3 j i = true ∨ must ops 3 i j = true := by
  unfold drawOk at h
  rw [Bool.and_eq_true, List.all_eq_true] at h
  have m1 : ∀ {k : Nat} {o : Oper}, ops[k]? = some o → (o, k) ∈ ops.zipIdx := fun {k o} hk => by
    rw [List.mem_iff_getElem?]; exact ⟨k, by rw [List.getElem?_zipIdx, hk]; simp⟩
  have h1 := h.2 _ (m1 hp)
  rw [List.all_eq_true] at h1
  have h2 := h1 t (by
    rw [List.mem_append]
    rcases ht with e | e
    · left; rw [e]; simp
    · right; exact e)
  rw [List.all_eq_true] at h2
  have h3 := h2 _ (m1 hq)
  simp only [hd] at h3
  simp only [Bool.or_eq_true, Bool.not_eq_true'] at h3
  rcases h3 with ((h3 | h3) | h3) | h3
  · rw [show Nat.beq t t = true from Nat.beq_refl t] at h3; cases h3
  · exact .inl (Nat.eq_of_beq_eq_true h3)
  · exact .inr (.inl h3)
  · exact .inr (.inr h3)

/-! the slots behind a set of operations -/
open Classical in
noncomputable def tmf (ops : List Oper) (x : Nat → AV) (tm0 : Nat → AV) (D : Nat → Prop) : Nat → (Nat → AV)
  | 0 => tm0
  | k + 1 => if D k then (match ops[k]? with | some o => putT (tmf ops x tm0 D k) o.dst (x k) | none => tmf ops x tm0 D k) else tmf ops x tm0 D k
section tmf
variable {ops : List Oper} {x : Nat → AV} {tm0 : Nat → AV}
theorem putT_ne {tm : Nat → AV} {d : Option Tmp} {y : AV} {t : Nat} (h : d ≠ some t) : putT tm d y t = tm t := by
  cases d with
  | none => rfl
  | some d => exact upd_ne _ _ (fun e => h (by rw [e]))
theorem putT_eq {tm : Nat → AV} {y : AV} {t : Nat} : putT tm (some t) y t = y := upd_same _ _ _
theorem putT_at {tm tm' : Nat → AV} {d : Option Tmp} {y : AV} {t : Nat} (h : tm t = tm' t) : putT tm d y t = putT tm' d y t := by
  by_cases e : d = some t
  · subst e; rw [putT_eq, putT_eq]
  · rw [putT_ne e, putT_ne e, h]
open Classical in
theorem tmf_succ {D : Nat → Prop} {k : Nat} : tmf ops x tm0 D (k + 1) = if D k then (match ops[k]? with | some o => putT (tmf ops x tm0 D k) o.dst (x k) | none => tmf ops x tm0 D k) else tmf ops x tm0 D k := by
  conv => lhs; unfold tmf
theorem tmf_step {D : Nat → Prop} {k t : Nat} (h : ∀ o, ops[k]? = some o → D k → o.dst ≠ some t) : tmf ops x tm0 D (k + 1) t = tmf ops x tm0 D k t := by
  rw [tmf_succ]
  split
  · rename_i hD
    split
    · rename_i o ho; exact putT_ne (h o ho hD)
    · rfl
  · rfl
theorem tmf_tail {D : Nat → Prop} {t : Nat} {j : Nat} (h : ∀ k o, j ≤ k → ops[k]? = some o → D k → o.dst ≠ some t) : ∀ n, j ≤ n → tmf ops x tm0 D n t = tmf ops x tm0 D j t := by
  intro n hn
  induction n with
  | zero => have : j = 0 := by omega
            subst this; rfl
  | succ n ih =>
    by_cases e : j = n + 1
    · subst e; rfl
    · rw [tmf_step (fun o ho hD => h n o (by omega) ho hD)]; exact ih (by omega)
theorem tmf_congr {D D' : Nat → Prop} {t : Nat} : ∀ n, (∀ k o, k < n → ops[k]? = some o → o.dst = some t → (D k ↔ D' k)) → tmf ops x tm0 D n t = tmf ops x tm0 D' n t := by
  intro n
  induction n with
  | zero => intro _; rfl
  | succ n ih =>
    intro h
    have ih := ih fun k o hk => h k o (by omega)
    cases ho : ops[n]? with
    | none => rw [tmf_succ, tmf_succ]; simp only [ho]; split <;> split <;> exact ih
    | some o =>
      by_cases hd : o.dst = some t
      · have := h n o (by omega) ho hd
        rw [tmf_succ, tmf_succ]
        simp only [ho]
        by_cases hD : D n
        · rw [if_pos hD, if_pos (this.1 hD)]; exact putT_at ih
        · rw [if_neg hD, if_neg (fun h => hD (this.2 h))]; exact ih
      · rw [tmf_step (fun o' ho' _ => by rw [ho] at ho'; cases ho'; exact hd), tmf_step (fun o' ho' _ => by rw [ho] at ho'; cases ho'; exact hd)]; exact ih
end tmf
end Go.Lg

/- The rule for regions that draw their order. -/
set_option linter.unusedVariables false
set_option linter.unusedSimpArgs false
set_option linter.unusedSectionVars false
namespace Go.Lg
open Go

section
variable {P : Program} {B : Fb → Prop} {N m : Nat} {Q : AEx → St → Prop}
def Does (P : Program) (B : Fb → Prop) (N m : Nat) (ops : Array Oper) (i : Nat) (σ σ' : St) : Prop := ∀ l Q, WO P B N m ops l Q σ' → WO P B N m ops (i :: l) Q σ
/-- An operation that leaves own memory alone, wherever it comes. -/
def Calm (P : Program) (B : Fb → Prop) (N m : Nat) (all : List Oper) (A : Heap → Nat → Prop) (o : Oper) (tm : Nat → AV) (df : List Nat) (x : AV) : Prop :=
  ∀ tm' h n, A h n → (∀ t, t ∈ rd all o → tm' t = tm t) → ∀ i, all[i]? = some o → Does P B N m all.toArray i ⟨tm', h, n, df⟩ ⟨putT tm' o.dst x, h, n, df⟩
/-- The one operation that changes it. -/
def Eff (P : Program) (B : Fb → Prop) (N m : Nat) (all : List Oper) (o : Oper) (tm : Nat → AV) (h : Heap) (n : Nat) (h' : Heap) (n' : Nat) (df : List Nat) (x : AV) : Prop :=
  ∀ tm', (∀ t, t ∈ rd all o → tm' t = tm t) → ∀ i, all[i]? = some o → Does P B N m all.toArray i ⟨tm', h, n, df⟩ ⟨putT tm' o.dst x, h', n', df⟩
/-- The walk in the text's order; 'b': the change has been. -/
inductive WR (P : Program) (B : Fb → Prop) (N m : Nat) (all : List Oper) (A : Nat → Heap → Nat → Prop) (Q : AEx → St → Prop) (df : List Nat) : Bool → Nat → List Oper → (Nat → AV) → Heap → Nat → Prop
  | nil {b : Bool} {k : Nat} {tm : Nat → AV} {h : Heap} {n : Nat} (hA : b = false → ∀ j, A j h n) (hq : Q .normal ⟨tm, h, n, df⟩) : WR P B N m all A Q df b k [] tm h n
  | op {b : Bool} {k : Nat} {o : Oper} {rest : List Oper} {tm : Nat → AV} {h : Heap} {n : Nat} {x : AV} (hc : Calm P B N m all (A k) o tm df x) (hr : WR P B N m all A Q df b (k + 1) rest (putT tm o.dst x) h n) : WR P B N m all A Q df b k (o :: rest) tm h n
  | eff {k : Nat} {o : Oper} {rest : List Oper} {tm : Nat → AV} {h h' : Heap} {n n' : Nat} {x : AV} (hc : Eff P B N m all o tm h n h' n' df x) (hA : ∀ j, (must all 3 k j = false → A j h n) ∧ (must all 3 j k = false → A j h' n')) (hr : WR P B N m all A Q df true (k + 1) rest (putT tm o.dst x) h' n') : WR P B N m all A Q df false k (o :: rest) tm h n

theorem tmf_vals {ops : List Oper} {x y : Nat → AV} {tm0 : Nat → AV} {D : Nat → Prop} : ∀ k, (∀ i, i < k → x i = y i) → tmf ops x tm0 D k = tmf ops y tm0 D k := by
  intro k
  induction k with
  | zero => intro _; rfl
  | succ k ih =>
    intro h
    rw [tmf_succ, tmf_succ, ih (fun i hi => h i (by omega)), h k (by omega)]
def Tr : Nat → Prop := fun _ => True
theorem tmf_tr {ops : List Oper} {x tm0 : Nat → AV} {k : Nat} {o : Oper} (ho : ops[k]? = some o) : tmf ops x tm0 Tr (k + 1) = putT (tmf ops x tm0 Tr k) o.dst (x k) := by
  rw [tmf_succ, if_pos (show Tr k from trivial), ho]

/-- What the walk tells of each operation. -/
structure Told (P : Program) (B : Fb → Prop) (N m : Nat) (all : List Oper) (A : Nat → Heap → Nat → Prop) (Q : AEx → St → Prop) (df : List Nat) (tm0 : Nat → AV) (x : Nat → AV) (e : Option Nat) (h n h' n' : _) (k : Nat) : Prop where
  ops : ∀ i o, k ≤ i → all[i]? = some o → e ≠ some i → Calm P B N m all (A i) o (tmf all x tm0 Tr i) df (x i)
  effs : ∀ i o, all[i]? = some o → e = some i → Eff P B N m all o (tmf all x tm0 Tr i) h n h' n' df (x i)
  none_ : e = none → h' = h ∧ n' = n
  at_ : ∀ i, e = some i → k ≤ i ∧ i < all.length ∧ ∀ j, (must all 3 i j = false → A j h n) ∧ (must all 3 j i = false → A j h' n')
  fin : Q .normal ⟨tmf all x tm0 Tr all.length, h', n', df⟩
theorem WR.told {all : List Oper} {A : Nat → Heap → Nat → Prop} {df : List Nat} {b : Bool} {k : Nat} {rest : List Oper} {tm : Nat → AV} {h : Heap} {n : Nat} (hw : WR P B N m all A Q df b k rest tm h n) :
    ∀ (pre : List Oper) (tm0 y : Nat → AV), all = pre ++ rest → k = pre.length → tm = tmf all y tm0 Tr pre.length → ∃ x e h' n', (∀ i, i < pre.length → x i = y i) ∧ (b = true → e = none) ∧ (b = false → e = none → ∀ j, A j h n) ∧ Told P B N m all A Q df tm0 x e h n h' n' pre.length := by
  induction hw with
  | @nil b k tm h n hA hq =>
    intro pre tm0 y hp hk ht
    refine ⟨y, none, h, n, fun _ _ => rfl, fun _ => rfl, fun hb _ => hA hb, ⟨fun i o hi ho => ?_, fun _ _ _ h => (by cases h), fun _ => ⟨rfl, rfl⟩, fun _ h => (by cases h), ?_⟩⟩
    · have := (List.getElem?_eq_some_iff.1 ho).1
      rw [hp] at this; simp at this; omega
    · have : all.length = pre.length := by rw [hp]; simp
      rw [this, ← ht]; exact hq
  | @op b k o rest tm h n x hc hr ih =>
    intro pre tm0 y hp hk ht
    have ho : all[pre.length]? = some o := by rw [hp]; simp
    obtain ⟨x', e, h', n', h1, h2, h2c, h3⟩ := ih (pre ++ [o]) tm0 (upd y pre.length x) (by rw [hp]; simp) (by simp [hk]) (by
      rw [List.length_append, List.length_singleton, tmf_tr ho, upd_same, ht]
      rw [tmf_vals (x := upd y pre.length x) (y := y) pre.length fun i hi => upd_ne _ _ (by omega)])
    have hx : x' pre.length = x := by rw [h1 pre.length (by simp), upd_same]
    have hxy : ∀ i, i < pre.length → x' i = y i := fun i hi => by rw [h1 i (by simp; omega), upd_ne _ _ (by omega)]
    refine ⟨x', e, h', n', hxy, h2, h2c, ⟨fun i o' hi ho' he => ?_, h3.effs, h3.none_, fun i he => ?_, h3.fin⟩⟩
    · by_cases ei : i = pre.length
      · subst ei
        rw [ho] at ho'; cases ho'
        rw [hx, tmf_vals _ hxy, ← ht, ← hk]; exact hc
      · exact h3.ops i o' (by simp; omega) ho' he
    · have := h3.at_ i he; simp at this; exact ⟨by omega, this.2⟩
  | @eff k o rest tm h h' n n' x hc hA hr ih =>
    intro pre tm0 y hp hk ht
    have ho : all[pre.length]? = some o := by rw [hp]; simp
    obtain ⟨x', e, h2', n2', h1, h2, _, h3⟩ := ih (pre ++ [o]) tm0 (upd y pre.length x) (by rw [hp]; simp) (by simp [hk]) (by
      rw [List.length_append, List.length_singleton, tmf_tr ho, upd_same, ht]
      rw [tmf_vals (x := upd y pre.length x) (y := y) pre.length fun i hi => upd_ne _ _ (by omega)])
    have hx : x' pre.length = x := by rw [h1 pre.length (by simp), upd_same]
    have hxy : ∀ i, i < pre.length → x' i = y i := fun i hi => by rw [h1 i (by simp; omega), upd_ne _ _ (by omega)]
    have he : e = none := h2 rfl
    subst he
    obtain ⟨rfl, rfl⟩ := h3.none_ rfl
    refine ⟨x', some pre.length, _, _, hxy, fun h => (by cases h), fun _ h => (by cases h), ⟨fun i o' hi ho' he => ?_, fun i o' ho' he => ?_, fun h => (by cases h), fun i he => ?_, h3.fin⟩⟩
    · have ei : i ≠ pre.length := fun e => he (by rw [e])
      exact h3.ops i o' (by simp; omega) ho' (by simp)
    · cases he
      rw [ho] at ho'; cases ho'
      rw [hx, tmf_vals _ hxy, ← ht]; exact hc
    · cases he
      exact ⟨Nat.le_refl _, (List.getElem?_eq_some_iff.1 ho).1, hk ▸ hA⟩

section main
variable {all : List Oper} {A : Nat → Heap → Nat → Prop} {df : List Nat} {tm0 x : Nat → AV} {e : Option Nat} {h h' : Heap} {n n' : Nat}
theorem reads_ok (hd : drawOk all = true) {D : Nat → Prop} (hdn : Down all D) {i : Nat} {o : Oper} (ho : all[i]? = some o) (hi : ¬ D i) (he : ∀ e, e ∈ o.after.toList → Region.binds .any e = true → D e.on) :
    ∀ t, t ∈ rd all o → tmf all x tm0 D all.length t = tmf all x tm0 Tr i t := by
  intro t ht
  have hb : backEdges all = true := by unfold drawOk at hd; rw [Bool.and_eq_true] at hd; exact hd.1
  have hlt : i < all.length := (List.getElem?_eq_some_iff.1 ho).1
  have h1 : tmf all x tm0 D all.length t = tmf all x tm0 D i t := tmf_tail (fun k q hk hq hD hdst => by
    rcases drawOk_spec hd ho hq (.inr ht) hdst with rfl | h1 | h1
    · exact hi hD
    · have := must_lt hb 3 k i h1; omega
    · exact hi (must_in hdn 3 i k h1 (hdn k hD))) all.length (by omega)
  rw [h1]
  exact tmf_congr i fun k q hk hq hdst => ⟨fun _ => trivial, fun _ => by
    rcases drawOk_spec hd ho hq (.inr ht) hdst with rfl | h1 | h1
    · omega
    · exact must_in hdn 3 k i h1 (fun o' ho' => by rw [ho] at ho'; cases ho'; exact he)
    · have := must_lt hb 3 i k h1; omega⟩
theorem writes_ok (hd : drawOk all = true) {D : Nat → Prop} (hdn : Down all D) {i : Nat} {o : Oper} (ho : all[i]? = some o) (hi : ¬ D i) :
    putT (tmf all x tm0 D all.length) o.dst (x i) = tmf all x tm0 (fun j => D j ∨ j = i) all.length := by
  have hb : backEdges all = true := by unfold drawOk at hd; rw [Bool.and_eq_true] at hd; exact hd.1
  have hlt : i < all.length := (List.getElem?_eq_some_iff.1 ho).1
  funext t
  by_cases ht : o.dst = some t
  · rw [ht, putT_eq]
    have h1 : tmf all x tm0 (fun j => D j ∨ j = i) all.length t = tmf all x tm0 (fun j => D j ∨ j = i) (i + 1) t := tmf_tail (fun k q hk hq hD hdst => by
      rcases hD with hD | rfl
      · rcases drawOk_spec hd ho hq (.inl ht) hdst with rfl | h1 | h1
        · omega
        · have := must_lt hb 3 k i h1; omega
        · exact hi (must_in hdn 3 i k h1 (hdn k hD))
      · omega) all.length (by omega)
    rw [h1, tmf_succ, if_pos (.inr rfl), ho]
    simp only [ht]
    rw [putT_eq]
  · rw [putT_ne ht]
    exact tmf_congr _ fun k q hk hq hdst => ⟨fun h => .inl h, fun h => by
      rcases h with h | rfl
      · exact h
      · rw [ho] at hq; cases hq; exact absurd hdst ht⟩
open Classical in
theorem told_run (hd : drawOk all = true) (ht : Told P B N m all A Q df tm0 x e h n h' n' 0) (hA : e = none → ∀ k, A k h n) {D : Nat → Prop} {l : List Nat} (hl : Ord all.toArray D l) (hdn : Down all D) :
    WO P B N m all.toArray l Q ⟨tmf all x tm0 D all.length, if (∃ i, e = some i ∧ D i) then h' else h, if (∃ i, e = some i ∧ D i) then n' else n, df⟩ := by
  induction hl with
  | @nil D hall =>
    have hfin := ht.fin
    have e1 : tmf all x tm0 D all.length = tmf all x tm0 Tr all.length := funext fun t => tmf_congr _ fun k q hk hq _ => ⟨fun _ => trivial, fun _ => hall k (by simpa using hk)⟩
    rw [← e1] at hfin
    intro K a hm hs
    have : (⟨tmf all x tm0 D all.length, if (∃ i, e = some i ∧ D i) then h' else h, if (∃ i, e = some i ∧ D i) then n' else n, df⟩ : St) = ⟨tmf all x tm0 D all.length, h', n', df⟩ := by
      cases he : e with
      | none => obtain ⟨rfl, rfl⟩ := ht.none_ he; simp
      | some i =>
        have := ht.at_ i he
        have hDi : D i := hall i (by simpa using this.2.1)
        rw [if_pos ⟨i, rfl, hDi⟩, if_pos ⟨i, rfl, hDi⟩]
    rw [this] at hs ⊢
    exact mo_nil ⟨K, _, _, rfl, hs, .refl hm _, .normal, hfin⟩
  | @cons D i o l hi hn hedge hl ih =>
    have hi' : all[i]? = some o := by simpa using hi
    have hdn' : Down all (fun j => D j ∨ j = i) := by
      rintro j (hj | rfl) o' ho' e' he' hb'
      · exact .inl (hdn j hj o' ho' e' he' hb')
      · rw [hi'] at ho'; cases ho'; exact .inl (hedge e' he' hb')
    have ih := ih hdn'
    rw [← writes_ok hd hdn hi' hn] at ih
    have hreads := reads_ok (x := x) (tm0 := tm0) hd hdn hi' hn hedge
    by_cases he : e = some i
    · have hnot : ¬ ∃ j, e = some j ∧ D j := by
        rintro ⟨j, h1, h2⟩; rw [he] at h1; cases h1; exact hn h2
      have hyes : ∃ j, e = some j ∧ (D j ∨ j = i) := ⟨i, he, .inr rfl⟩
      rw [if_pos hyes, if_pos hyes] at ih
      rw [if_neg hnot, if_neg hnot]
      exact ht.effs i o hi' he _ hreads i hi' l Q ih
    · have hiff : (∃ j, e = some j ∧ (D j ∨ j = i)) ↔ ∃ j, e = some j ∧ D j := by
        constructor
        · rintro ⟨j, h1, h2 | rfl⟩
          · exact ⟨j, h1, h2⟩
          · exact absurd h1 he
        · rintro ⟨j, h1, h2⟩; exact ⟨j, h1, .inl h2⟩
      simp only [hiff] at ih
      refine ht.ops i o (Nat.zero_le _) hi' he _ _ _ ?_ hreads i hi' l Q ih
      by_cases hc : ∃ j, e = some j ∧ D j
      · rw [if_pos hc, if_pos hc]
        obtain ⟨j, h1, hDj⟩ := hc
        refine ((ht.at_ j h1).2.2 i).2 ?_
        cases hm : must all 3 i j with
        | false => rfl
        | true => exact absurd (must_in hdn 3 i j hm (hdn j hDj)) hn
      · rw [if_neg hc, if_neg hc]
        cases he' : e with
        | none => exact hA he' i
        | some j =>
          refine ((ht.at_ j he').2.2 i).1 ?_
          cases hm : must all 3 j i with
          | false => rfl
          | true => exact absurd ⟨j, he', must_in hdn 3 j i hm (fun o' ho' => by rw [hi'] at ho'; cases ho'; exact hedge)⟩ hc
theorem w_draw {id : Nat} {ops : Array Oper} {tm : Nat → AV} (hmx : P.follows .mixedOrders = true) (hd : drawOk ops.toList = true) (hw : WR P B N m ops.toList A Q df false 0 ops.toList tm h n) : W P B N m (.region id ops true) Q ⟨tm, h, n, df⟩ := by
  intro K a hm hs
  refine mw_region_draw fun t => ?_
  rw [hmx, sched_any]
  have hb : backEdges ops.toList = true := by unfold drawOk at hd; rw [Bool.and_eq_true] at hd; exact hd.1
  obtain ⟨x, e, h', n', _, _, hA, ht⟩ := hw.told [] tm (fun _ => .any) rfl rfl rfl
  have hrun := told_run hd ht (hA rfl) (D := fun _ => False) (l := Region.linearise .any ops t) (by simpa using linearise_ord hb t) (fun _ h => h.elim)
  have e0 : tmf ops.toList x tm (fun _ => False) ops.toList.length = tm := by
    funext t'
    exact (tmf_tail (j := 0) (fun k o _ _ h => h.elim) _ (Nat.zero_le _))
  rw [e0] at hrun
  simp only [and_false, exists_false, if_false] at hrun
  obtain ⟨k1, k2, hE⟩ := drew_ok hs.rel (K.w.drawn + 1)
  have := hrun (K.at_ { K.w with drawn := K.w.drawn + 1 }) a hm ⟨hs.next, k1, hs.tr.mono hE, hs.dr.mono hE⟩
  rw [Array.toArray_toList] at this
  exact MO.mono this fun e a' w' hq => Post.step (k2.stm hm) hq
end main
end
end Go.Lg


