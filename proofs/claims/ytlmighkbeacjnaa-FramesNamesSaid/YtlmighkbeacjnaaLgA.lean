/- append. -/
import Derived.Test.YtlmighkbeacjnaaLg9
set_option linter.unusedVariables false
set_option linter.unusedSimpArgs false
set_option linter.unusedSectionVars false
namespace Go.Lg
open Go

/-- Values written into an array from a place on. -/
def arrSet (arr : Array Value) : Nat → List Value → Array Value
  | _, [] => arr
  | off, v :: vs => arrSet (arr.setIfInBounds off v) (off + 1) vs
theorem arrSet_size : ∀ (vs : List Value) (arr : Array Value) (off : Nat), (arrSet arr off vs).size = arr.size
  | [], _, _ => rfl
  | v :: vs, arr, off => by unfold arrSet; rw [arrSet_size vs]; simp
theorem arrSet_lt : ∀ (vs : List Value) (arr : Array Value) (off j : Nat), j < off → (arrSet arr off vs)[j]? = arr[j]?
  | [], _, _, _, _ => rfl
  | v :: vs, arr, off, j, h => by
    unfold arrSet; rw [arrSet_lt vs _ _ _ (by omega), Array.getElem?_setIfInBounds_ne (by omega)]
theorem arrSet_at : ∀ (vs : List Value) (arr : Array Value) (off j : Nat), off + vs.length ≤ arr.size → j < vs.length → (arrSet arr off vs)[off + j]? = vs[j]?
  | [], _, _, _, _, h => by simp at h
  | v :: vs, arr, off, 0, h, _ => by
    simp only [List.length_cons] at h
    unfold arrSet
    rw [Nat.add_zero, arrSet_lt vs _ _ _ (by omega)]
    simp [show off < arr.size by omega]
  | v :: vs, arr, off, j + 1, h, hj => by
    simp only [List.length_cons] at h hj
    unfold arrSet
    rw [show off + (j + 1) = off + 1 + j by omega, arrSet_at vs _ _ _ (by simp; omega) (by omega)]
    simp
theorem store_raw {P : Program} {blk : Nat} {e : TypeId} {fr : Nat × Nat} : ∀ (vs : List Value) (w : World) (arr : Array Value) (off j : Nat), w.heap[blk]? = some (.cells arr e fr) → thawed arr fr → off + j + vs.length ≤ arr.size → (∀ v, v ∈ vs → scalV v = true) →
    ∃ w', (storeCells ⟨blk, off, none⟩ vs j).run P w = .ok () w' ∧ w'.heap[blk]? = some (.cells (arrSet arr (off + j) vs) e fr) ∧ Wrote w w' blk
  | [], w, arr, off, j, hb, _, _, _ => ⟨w, rfl, hb, ⟨rfl, fun _ _ => rfl, rfl, rfl, rfl⟩⟩
  | v :: vs, w, arr, off, j, hb, ht, hl, hs => by
    simp only [List.length_cons] at hl
    let w1 := w.setCell ⟨blk, off + j, none⟩ v
    have hb1 : w1.heap[blk]? = some (.cells (arr.setIfInBounds (off + j) v) e fr) := by
      simp only [w1, World.setCell, Array.getElem?_modify, if_true, hb]; rfl
    have hc : w.cell? ⟨blk, off + j, none⟩ = some (arr[off + j]'(by omega)) := by simp [World.cell?, hb, show off + j < arr.size by omega]
    have hf : w.frozen? ⟨blk, off + j, none⟩ = false := by simp only [World.frozen?, hb]; exact ht _ (by omega)
    have h1 : (store ⟨blk, off + j, none⟩ v).run P w = .ok () w1 := by
      have hsv := hs v (by simp)
      unfold store
      cases v <;> first | (simp only [Sem.run, hc, hf]; rfl) | (simp [scalV] at hsv)
    obtain ⟨w', h2, h3, h4⟩ := store_raw vs w1 _ off (j + 1) hb1 (fun i hi => ht i (by simpa using hi)) (by simp; omega) (fun u hu => hs u (by simp [hu]))
    refine ⟨w', ?_, h3, ⟨by rw [h4.size]; simp [w1, World.setCell], fun b hbn => ?_, h4.os, h4.tape, h4.output⟩⟩
    · unfold storeCells
      rw [add_plain, run_bindv h1]
      exact h2
    · rw [h4.same b hbn]
      simp only [w1, World.setCell, Array.getElem?_modify]
      rw [if_neg (fun e => hbn e.symm)]

theorem flat_cells {K : Ctx} {blk esz : Nat} : ∀ (rows : List (List AV)) (off : Nat), (∀ r, r ∈ rows → r.length = esz) → (∀ (i : Nat) r, rows[i]? = some r → ∃ vs, VRs K r vs ∧ ∀ (j : Nat) u, vs[j]? = some u → K.w.cell? ⟨blk, off + i * esz + j, none⟩ = some u) →
    ∃ vs, VRs K rows.flatten vs ∧ ∀ (j : Nat) u, vs[j]? = some u → K.w.cell? ⟨blk, off + j, none⟩ = some u
  | [], off, _, _ => ⟨[], VRs.nil K, by simp⟩
  | r :: rows, off, hl, h => by
    obtain ⟨vs, h1, h2⟩ := h 0 r rfl
    obtain ⟨us, g1, g2⟩ := flat_cells rows (off + esz) (fun r hr => hl r (by simp [hr])) (fun i r hr => by
      obtain ⟨vs, k1, k2⟩ := h (i + 1) r (by simpa using hr)
      exact ⟨vs, k1, fun j u hu => by have := k2 j u hu; rw [Nat.succ_mul] at this; rw [← this]; congr 2; omega⟩)
    have hlen : vs.length = esz := by rw [h1.1]; exact hl r (by simp)
    refine ⟨vs ++ us, by rw [List.flatten_cons]; exact h1.append g1, fun j u hu => ?_⟩
    rw [List.getElem?_append] at hu
    split at hu
    · have := h2 j u hu; simpa using this
    · have := g2 _ u hu
      rw [hlen] at this
      rw [← this]; congr 2; omega

/-- What is appended: so many elements, these cells. -/
def SrcA (h : Heap) (sz : Nat) : AV → Nat → List AV → Prop
  | .view rows, k, news => k = rows.length ∧ news = rows.flatten ∧ ∀ r, r ∈ rows → r.length = sz
  | .empty, k, news => k = 0 ∧ news = []
  | .slice id off len _ sz', k, news => sz' = sz ∧ k = len ∧ ∃ cs e, h id = some (.cells cs e) ∧ off + len * sz ≤ cs.length ∧ news = (cs.drop off).take (len * sz)
  | .str s, k, news => sz = 1 ∧ k = s.length ∧ news = s.map fun b => .int .u8 b.toNat
  | _, _, _ => False
theorem SrcA.length {h : Heap} {sz : Nat} {x : AV} {k : Nat} {news : List AV} (hs : SrcA h sz x k news) : news.length = k * sz := by
  cases x <;> simp only [SrcA] at hs
  case view rows =>
    obtain ⟨rfl, rfl, hl⟩ := hs
    induction rows with
    | nil => simp
    | cons r rows ih => rw [List.flatten_cons, List.length_append, hl r (by simp), List.length_cons, Nat.succ_mul, ih (fun r hr => hl r (by simp [hr])), Nat.add_comm]
  case empty => obtain ⟨rfl, rfl⟩ := hs; simp
  case slice => obtain ⟨rfl, rfl, cs, e, _, hl, rfl⟩ := hs; simp; omega
  case str => obtain ⟨rfl, rfl, rfl⟩ := hs; simp
theorem src_run {P : Program} {K : Ctx} {H : Heap} (hr : Rel K H) {sz k : Nat} {x : AV} {v : Value} {news : List AV} (hs : SrcA H sz x k news) (hv : VR K x v) :
    (Builtin.lenOf v).run P K.w = .ok k K.w ∧ ∃ arr : Array Value, (Builtin.firstCells sz k v).run P K.w = .ok arr K.w ∧ VRs K news arr.toList := by
  cases x <;> simp only [SrcA] at hs
  case view rows =>
    obtain ⟨rfl, rfl, hl⟩ := hs
    obtain ⟨a, c, esz, rfl, _, hl2, hcell⟩ := view_cells hv
    refine ⟨rfl, ?_⟩
    by_cases hp : 0 < rows.length
    · obtain ⟨blk, off, rfl, hro, hcells⟩ := hcell hp
      have he : esz = sz := by
        have h0 : rows[0]? = some (rows[0]'hp) := List.getElem?_eq_getElem hp
        rw [← hl2 _ (List.mem_of_getElem? h0)]; exact hl _ (List.mem_of_getElem? h0)
      subst he
      obtain ⟨vs, h1, h2⟩ := flat_cells rows off hl hcells
      have hlen : vs.length = rows.length * esz := by rw [h1.1]; exact SrcA.length (h := H) (x := .view rows) ⟨rfl, rfl, hl⟩
      have := run_loadCells_list (P := P) (w := K.w) ⟨blk, off, none⟩ vs (fun j v hj => by rw [add_plain]; exact h2 j v hj)
      rw [hlen] at this
      exact ⟨_, this, by simpa using h1⟩
    · have e0 : rows = [] := List.eq_nil_of_length_eq_zero (by omega)
      subst e0
      cases a with
      | none => exact ⟨#[], rfl, VRs.nil K⟩
      | some a => exact ⟨#[], by simp [Builtin.firstCells, loadCells, loadCellsFrom], VRs.nil K⟩
  case empty =>
    obtain ⟨rfl, rfl⟩ := hs
    cases hv with
    | empty a =>
      refine ⟨rfl, #[], ?_, VRs.nil K⟩
      cases a with
      | none => rfl
      | some a => simp [Builtin.firstCells, loadCells, loadCellsFrom]
  case slice id off len cap sz' =>
    obtain ⟨rfl, rfl, cs, e, hH, hl, rfl⟩ := hs
    cases hv with
    | @slice _ _ _ _ _ o' c hid ho hc hl' hcap =>
      refine ⟨rfl, ?_⟩
      by_cases hz : k * sz' = 0
      · exact ⟨#[], by simp [Builtin.firstCells, hz, loadCells, loadCellsFrom], by rw [hz]; exact VRs.nil K⟩
      · have hk : 0 < k := Nat.pos_of_ne_zero (fun e => hz (by rw [e]; simp))
        rw [ho (by omega)]
        obtain ⟨vs, h1, h2⟩ := own_cells (hr.br id _ hH) off
        have hlen : (vs.take (k * sz')).length = k * sz' := by rw [List.length_take, h1.1]; simp; omega
        have := run_loadCells_list (P := P) (w := K.w) ⟨K.base id, K.boff id + off, none⟩ (vs.take (k * sz')) (fun j v hj => by
          rw [add_plain]; rw [List.getElem?_take] at hj
          split at hj
          · exact h2 j v hj
          · cases hj)
        rw [hlen] at this
        exact ⟨_, this, by simpa using h1.take _⟩
  case str s =>
    obtain ⟨rfl, rfl, rfl⟩ := hs
    obtain ⟨b, rfl, rfl⟩ := hv.str_inv
    have e0 : b.data.toList.length = b.size := Array.length_toList
    have e1 : (b.extract 0 b.data.toList.length) = b := by rw [e0]; simp
    refine ⟨by rw [e0]; rfl, _, rfl, ⟨?_, fun i x v hx hv => ?_⟩⟩
    · rw [e1]; simp
    · rw [e1] at hv
      simp only [List.getElem?_map, Option.map_eq_some_iff] at hx
      obtain ⟨c, hc, rfl⟩ := hx
      rw [Array.toList_map, List.getElem?_map, hc] at hv
      cases hv
      exact .int _ _

theorem growBy_le (m : Nat) : ∀ (r c : Nat), c ≤ 2 * m + 768 → Builtin.growBy m r c ≤ 2 * m + 768
  | 0, c, h => h
  | r + 1, c, h => by
    unfold Builtin.growBy
    split
    · exact h
    · exact growBy_le m r _ (by omega)
theorem nextslicecap_le {m c : Nat} (h : c < m) : Builtin.nextslicecap m c ≤ 2 * m + 768 := by
  unfold Builtin.nextslicecap
  split
  · omega
  · split
    · omega
    · exact growBy_le m 4 c (by omega)
theorem run_askRoom (P : Program) (n : Nat) (w : World) : (askRoom n).run P w = .ok () w := by
  unfold askRoom
  split <;> rfl

def notInt : TypeDesc → Bool
  | .int _ => false
  | _ => true
theorem new_cells' {K : Ctx} {H : Heap} (hr : Rel K H) {arr : Array Value} {t : TypeId} {cs : List AV} {vs more : List Value} (ha : arr.toList = vs ++ more) (hv : VRs K cs vs) : BR (K.newOwn (.cells arr t) arr.size) K.next (.cells cs t) := by
  have hE := newOwn_ext hr (.cells arr t) arr.size
  have hz : arr.size = vs.length + more.length := by rw [← Array.length_toList, ha]; simp
  refine ⟨arr, (0, 0), ?_, thawed0 _, ?_, ?_, fun j x hx => ?_⟩
  · show (K.w.heap.push _)[upd K.base K.next _ K.next]? = _; rw [upd_same]; simp
  · show _ = upd K.bsz K.next _ K.next; rw [upd_same]
  · show upd K.boff K.next 0 K.next + _ ≤ _; rw [upd_same]; have := hv.1; omega
  · obtain ⟨v, h1, h2⟩ := hv.get hx
    refine ⟨v, ?_, h2.mono hE⟩
    show arr[upd K.boff K.next 0 K.next + j]? = _
    rw [upd_same, Nat.zero_add, ← Array.getElem?_toList, ha, List.getElem?_append_left (List.getElem?_eq_some_iff.1 h1).1]
    exact h1
theorem upd_comm {α : Type} (f : Nat → α) {i j : Nat} (h : i ≠ j) (x y : α) : upd (upd f i x) j y = upd (upd f j y) i x := by
  funext k; unfold upd
  by_cases h1 : k = j
  · subst h1
    rw [if_pos rfl, if_neg (fun e => h e.symm), if_pos rfl]
  · rw [if_neg h1]
    by_cases h2 : k = i
    · rw [if_pos h2, if_pos h2]
    · rw [if_neg h2, if_neg h2, if_neg h1]

section
variable {P : Program} {T : TT} (hT : TOK P T) {N : Nat} {o : Oper} {σ : St}
include hT
/-- Growth: a new block with what was there and what is new. -/
theorem grow_run {t t2 ty e : TypeId} {ti ei i2 : TI} {K : Ctx} {H : Heap} (hr : Rel K H) (ht : T t = some ti) (hd : ti.desc = .slice e) (he : T e = some ei) (ht2 : T t2 = some i2) (hn2 : notInt i2.desc = true)
    {a : Option Addr} {len c k : Nat} {olds news : List AV} {src : AV} {y : Value} (hc : c < len + k) (hsm : (2 * (len + k) + 768) * ei.bytes ≤ 281474976710656) (hsm2 : len + k ≤ 4611686018427387904) (hb : 0 < ei.bytes)
    (hold : ∀ K', Ext K K' → (∀ b, b < K.w.heap.size → K'.w.heap[b]? = K.w.heap[b]?) → ∃ arr : Array Value, (Builtin.firstCells ei.size len (.slice a len c)).run P K'.w = .ok arr K'.w ∧ VRs K' olds arr.toList) (holdl : olds.length = len * ei.size)
    (hsrc : SrcA H ei.size src k news) (hy : VR K src y) :
    ∃ K', ∃ c', (Builtin.append_ #[t, t2] ty #[.slice a len c, y]).run P K.w = .ok (.slice (some ⟨K.w.heap.size, 0, none⟩) (len + k) c') K'.w ∧ K'.next = K.next + 1 ∧
      Rel K' (upd H K.next (some (.cells (olds ++ news) e))) ∧ Step K H K' (upd H K.next (some (.cells (olds ++ news) e))) ∧ VR K' (.slice K.next 0 (len + k) none ei.size) (.slice (some ⟨K.w.heap.size, 0, none⟩) (len + k) c') := by
  have hu := r_und hT ht K.w
  rw [hd] at hu
  obtain ⟨tj, z, g1, g2, g3, g4, g5, g6, g7⟩ := hT.info e ei he
  have hu2 := r_und hT ht2 K.w
  let q : Question := .appendCap (len + k) c e
  let newCap := q.cut (K.w.tape K.w.drawn q)
  have hnc : len + k ≤ newCap := by show len + k ≤ (len + k) + _; omega
  let w1 : World := { K.w with drawn := K.w.drawn + 1 }
  let K1 := K.at_ w1
  obtain ⟨hr1, hst1, hE1⟩ := drew_ok hr (K.w.drawn + 1)
  obtain ⟨oarr, ho1, ho2⟩ := hold K1 hE1 (fun _ _ => rfl)
  obtain ⟨_, narr, hn1, hn3⟩ := src_run (P := P) hr1 hsrc (hy.mono hE1)
  obtain ⟨hlen0, _⟩ := src_run (P := P) hr hsrc hy
  let rest := Builtin.zeroCells z.cells (newCap - (len + k))
  let arr := oarr ++ narr ++ rest
  have hl1 : oarr.size = len * ei.size := by rw [← holdl, ← ho2.1]; simp
  have hl2 : narr.size = k * ei.size := by rw [← hsrc.length, ← hn3.1]; simp
  have hl3 : rest.size = (newCap - (len + k)) * ei.size := by simp [rest, Builtin.zeroCells, g5]
  have hlarr : newCap * ei.size ≤ arr.size := by
    have : newCap * ei.size = len * ei.size + k * ei.size + (newCap - (len + k)) * ei.size := by rw [← Nat.add_mul, ← Nat.add_mul]; congr 1; omega
    simp only [arr, Array.size_append]; omega
  have hbr := new_cells' (K := K1) hr1 (arr := arr) (t := e) (cs := olds ++ news) (vs := oarr.toList ++ narr.toList) (more := rest.toList) (by simp [arr]) (ho2.append hn3)
  obtain ⟨k1, k2⟩ := newOwn_ok hr1 hbr
  refine ⟨K1.newOwn (.cells arr e) arr.size, newCap, ?_, rfl, k1, hst1.trans k2, slice_new (K := K1) none hlarr hnc (by simp)⟩
  unfold Builtin.append_
  simp only [List.getElem?_toArray, List.getElem?_cons_zero, List.getElem?_cons_succ]
  rw [run_bindv hu]
  simp only
  have hsz := r_size hT he
  rw [run_bindv (hsz K.w)]
  rw [run_bindv (r_und hT ht2 K.w)]
  refine (run_bindv (a := false) (w' := K.w) ?hzz).trans ?_
  case hzz => cases hh : i2.desc <;> first | rfl | (rw [hh] at hn2; cases hn2)
  simp only [Bool.false_eq_true, if_false, Bool.not_false, if_true]
  rw [run_bindv hlen0]
  rw [if_neg (by omega)]
  have hti : ∀ w, (typeInfo e).run P w = .ok tj w := fun w => by simp [typeInfo, program, Sem.run, g1]
  rw [run_bindv (hti K.w)]
  have hmax : ¬ (((len + k : Nat) : Int) > IntKind.i64.max ∧ (False ∨ tj.bytes = 0)) := by
    rintro ⟨_, h | h⟩
    · exact h
    · omega
  rw [if_neg hmax, run_bindv (hti K.w)]
  have hcap : ¬ (Builtin.nextslicecap (len + k) c * tj.bytes > 2 ^ 48) := by
    have h1 := nextslicecap_le hc
    have h2 : Builtin.nextslicecap (len + k) c * tj.bytes ≤ (2 * (len + k) + 768) * ei.bytes := by rw [g3]; exact Nat.mul_le_mul_right _ h1
    omega
  rw [if_neg hcap]
  have hch : (choose q).run P K.w = .ok newCap w1 := by
    simp only [choose, Sem.run, q, Question.forced, Bool.false_eq_true, if_false]; rfl
  have ho1' : (Builtin.firstCells ei.size len (.slice a len c)).run P w1 = .ok oarr w1 := ho1
  have hn1' : (Builtin.firstCells ei.size k y).run P w1 = .ok narr w1 := hn1
  rw [run_bindv hch, run_bindv (hti w1), run_bindv (run_askRoom P _ w1), run_bindv ho1', run_bindv hn1']
  have hzv : (zeroValue e).run P w1 = .ok z w1 := by simp [zeroValue, typeInfo, program, Sem.run, g1, g4]
  rw [run_bindv hzv]
  rfl
/-- append to nothing that has room. -/
theorem opv_append_new {t t2 e : TypeId} {x z : Operand} {ti ei i2 : TI} {k : Nat} {src : AV} {news : List AV} (hop : o.op = .call { callee := .builtin .append, args := #[x, z], argTypes := #[t, t2] }) (ht : T t = some ti) (hd : ti.desc = .slice e) (he : T e = some ei) (ht2 : T t2 = some i2) (hn2 : notInt i2.desc = true)
    (hx : evo σ.tm x = some .empty) (hz : evo σ.tm z = some src) (hsrc : SrcA σ.h ei.size src k news) (hk : 0 < k) (hsm : (2 * k + 768) * ei.bytes ≤ 281474976710656) (hsm2 : k ≤ 4611686018427387904) (hb : 0 < ei.bytes) :
    OpV P N o σ (.slice σ.n 0 k none ei.size) (upd σ.h σ.n (some (.cells news e))) (σ.n + 1) := by
  intro K a hs
  have hvx := evo_sound hs.tr hx
  have hvz := evo_sound hs.tr hz
  generalize hhx : a.eval x = vx at hvx
  cases hvx with
  | empty ad =>
    obtain ⟨K', c', h1, h2, h3, h4, h5⟩ := grow_run hT (ty := o.type) hs.rel ht hd he ht2 hn2 (a := ad) (len := 0) (c := 0) (olds := []) (by omega) (by simpa using hsm) (by omega) hb (fun K' _ _ => ⟨#[], by
      cases ad with
      | none => rfl
      | some ad => simp [Builtin.firstCells, loadCells, loadCellsFrom], VRs.nil K'⟩) (by simp) hsrc hvz
    simp only [Nat.zero_add, List.nil_append] at h1 h3 h4 h5
    rw [← hs.next]
    refine ⟨_, K', .inl ?_, h2, h3, h4, h5⟩
    unfold execOp; rw [hop]
    simp only [resolve, List.map_toArray, List.map_cons, List.map_nil]
    rw [run_bindv (run_purev _ _)]
    unfold invoke
    simp only [builtin]
    rw [hhx, run_bindv h1]; rfl
/-- append to the end of own memory. -/
theorem opv_append_own {t t2 e : TypeId} {x z : Operand} {ti ei i2 : TI} {k id off len : Nat} {cs : List AV} {src : AV} {news : List AV} (hop : o.op = .call { callee := .builtin .append, args := #[x, z], argTypes := #[t, t2] }) (ht : T t = some ti) (hd : ti.desc = .slice e) (he : T e = some ei) (ht2 : T t2 = some i2) (hn2 : notInt i2.desc = true)
    (hx : evo σ.tm x = some (.slice id off len none ei.size)) (hz : evo σ.tm z = some src) (hH : σ.h id = some (.cells cs e)) (hl : off + len * ei.size = cs.length) (hsrc : SrcA σ.h ei.size src k news) (hsc : ∀ c, c ∈ news → scalA c = true)
    (hsm : (2 * (len + k) + 768) * ei.bytes ≤ 281474976710656) (hsm2 : len + k ≤ 4611686018427387904) (hb : 0 < ei.bytes) :
    OpV P N o σ (.slice σ.n 0 (len + k) none ei.size) (upd (upd σ.h id none) σ.n (some (.cells (cs.drop off ++ news) e))) (σ.n + 1) := by
  intro K a hs
  have hvx := evo_sound hs.tr hx
  have hvz := evo_sound hs.tr hz
  have hid0 : σ.h id ≠ none := by rw [hH]; simp
  have hidlt := hs.rel.lt id hid0
  generalize hhx : a.eval x = vx at hvx
  cases hvx with
  | @slice _ _ _ _ _ o' c hid ho hc hl' hcap =>
    have hexec : ∀ {v : Value} {w' : World}, (Builtin.append_ #[t, t2] o.type #[.slice (some ⟨K.base id, o', none⟩) len c, a.eval z]).run P K.w = .ok v w' → (execOp a.eval o).run P K.w = .ok (.value v) w' := by
      intro v w' h1
      unfold execOp; rw [hop]
      simp only [resolve, List.map_toArray, List.map_cons, List.map_nil]
      rw [run_bindv (run_purev _ _)]
      unfold invoke
      simp only [builtin]
      rw [hhx, run_bindv h1]; rfl
    rw [← hs.next]
    by_cases hroom : len + k ≤ c
    · -- there is room
      obtain ⟨arr, fr, hblk, hth, hz1, hz2, hcs⟩ := hs.rel.br id _ hH
      obtain ⟨hlen0, narr, hn1, hn3⟩ := src_run (P := P) hs.rel hsrc hvz
      have hnl : narr.size = k * ei.size := by rw [← hsrc.length, ← hn3.1]; simp
      have hnsc : ∀ v, v ∈ narr.toList → scalV v = true := by
        intro v hv
        obtain ⟨i, hi⟩ := List.mem_iff_getElem?.1 hv
        have hlt : i < news.length := by rw [← hn3.1]; exact (List.getElem?_eq_some_iff.1 hi).1
        have hx := List.getElem?_eq_getElem hlt
        exact scal_of (hn3.2 i _ v hx hi) (hsc _ (List.mem_of_getElem? hx))
      have hstore : ∃ w', (storeCells ((⟨K.base id, o', none⟩ : Addr).add (len * ei.size)) narr.toList).run P K.w = .ok () w' ∧ w'.heap[K.base id]? = some (.cells (arrSet arr (K.boff id + cs.length) narr.toList) e fr) ∧ Wrote K.w w' (K.base id) := by
        rw [add_plain]
        by_cases hc0 : 0 < c
        · have e1 : o' + len * ei.size = K.boff id + cs.length := by rw [ho hc0, ← hl]; omega
          have hsp := hc hc0
          have h5 : (len + k) * ei.size ≤ c * ei.size := Nat.mul_le_mul_right _ hroom
          rw [Nat.add_mul] at h5
          have := store_raw (P := P) narr.toList K.w arr (o' + len * ei.size) 0 hblk hth (by simp [hnl]; omega) hnsc
          simp only [Nat.add_zero, e1] at this ⊢
          exact this
        · have hk0 : k = 0 := by omega
          have : narr.toList = [] := by have : narr.size = 0 := by rw [hnl, hk0]; simp
                                        exact List.eq_nil_of_length_eq_zero (by simpa using this)
          rw [this]
          exact ⟨K.w, rfl, hblk, ⟨rfl, fun _ _ => rfl, rfl, rfl, rfl⟩⟩
      obtain ⟨w', hst, hb', hw⟩ := hstore
      have hE := renamed_ext (off := off) hs.rel hid0 hw
      have e1 : (K.renamed w' id off).base K.next = K.base id := upd_same _ _ _
      have e2 : (K.renamed w' id off).boff K.next = K.boff id + off := upd_same _ _ _
      have e3 : (K.renamed w' id off).bsz K.next = K.bsz id := upd_same _ _ _
      have hfit : K.boff id + cs.length + narr.size ≤ arr.size := by
        by_cases hc0 : 0 < c
        · have hsp := hc hc0
          rw [ho hc0] at hsp
          have h5 : (len + k) * ei.size ≤ c * ei.size := Nat.mul_le_mul_right _ hroom
          rw [Nat.add_mul] at h5
          rw [hnl]; omega
        · have hk0 : k = 0 := by omega
          rw [hnl, hk0]; simp; omega
      have hbr : BR (K.renamed w' id off) K.next (.cells (cs.drop off ++ news) e) := by
        refine ⟨_, fr, by rw [e1]; exact hb', fun j hj => hth j (by rw [arrSet_size] at hj; exact hj), by rw [e3, arrSet_size]; exact hz1, ?_, fun j y hy => ?_⟩
        · rw [e2, arrSet_size, List.length_append, List.length_drop, ← hn3.1]; simp; omega
        · rw [e2]
          rw [List.getElem?_append] at hy
          split at hy
          · rename_i hj
            rw [List.length_drop] at hj
            rw [List.getElem?_drop] at hy
            obtain ⟨u, hu, hru⟩ := hcs _ y hy
            refine ⟨u, ?_, hru.mono hE⟩
            rw [arrSet_lt _ _ _ _ (by omega), Nat.add_assoc]; exact hu
          · rename_i hj
            rw [List.length_drop] at hj hy
            obtain ⟨u, hu, hru⟩ := hn3.get hy
            refine ⟨u, ?_, hru.mono hE⟩
            have hlt := (List.getElem?_eq_some_iff.1 hu).1
            have := arrSet_at narr.toList arr (K.boff id + cs.length) (j - (cs.length - off)) (by simpa using hfit) hlt
            rw [← hu, ← this]
            congr 1; omega
      obtain ⟨k1, k2⟩ := renamed_ok hs.rel hid0 hw hbr
      refine ⟨.slice (some ⟨K.base id, o', none⟩) (len + k) c, K.renamed w' id off, .inl (hexec ?_), rfl, k1, k2, ?_⟩
      · have hu := r_und hT ht K.w
        rw [hd] at hu
        unfold Builtin.append_
        simp only [List.getElem?_toArray, List.getElem?_cons_zero, List.getElem?_cons_succ]
        rw [run_bindv hu]
        simp only
        rw [run_bindv (r_size hT he K.w)]
        rw [run_bindv (r_und hT ht2 K.w)]
        refine (run_bindv (a := false) (w' := K.w) ?hzz).trans ?_
        case hzz => cases hh : i2.desc <;> first | rfl | (rw [hh] at hn2; cases hn2)
        simp only [Bool.false_eq_true, if_false, Bool.not_false, if_true]
        rw [run_bindv hlen0, if_pos hroom, run_bindv hn1]
        rw [run_bindv hst]
        rfl
      · have := VR.slice (K := K.renamed w' id off) (id := K.next) (off := 0) (len := len + k) (cap := none) (sz := ei.size) (o := o') (c := c) (Nat.lt_succ_self _) (by rw [e2]; simpa using ho) (by rw [e3]; exact hc) hroom (by simp)
        rw [e1] at this; exact this
    · -- it grows
      obtain ⟨K', c', h1, h2, h3, h4, h5⟩ := grow_run hT (ty := o.type) hs.rel ht hd he ht2 hn2 (a := some ⟨K.base id, o', none⟩) (len := len) (c := c) (olds := cs.drop off) (by omega) hsm hsm2 hb (fun K' hE hsame => by
        by_cases hz : len * ei.size = 0
        · refine ⟨#[], by simp [Builtin.firstCells, hz, loadCells, loadCellsFrom], ?_⟩
          have : cs.drop off = [] := List.drop_eq_nil_of_le (by omega)
          rw [this]; exact VRs.nil K'
        · have hp : 0 < len := Nat.pos_of_ne_zero (fun e => hz (by rw [e]; simp))
          rw [ho (by omega)]
          obtain ⟨m1, m2, m3⟩ := hE.mu id hidlt
          have hbr := (hs.rel.br id _ hH).mono hE hidlt (hsame _ (hs.rel.size_lt hid0))
          obtain ⟨vs, g1, g2⟩ := own_cells hbr off
          rw [m1, m2] at g2
          have hlen : vs.length = len * ei.size := by rw [g1.1, List.length_drop]; omega
          have := run_loadCells_list (P := P) (w := K'.w) ⟨K.base id, K.boff id + off, none⟩ vs (fun j v hj => by rw [add_plain]; exact g2 j v hj)
          rw [hlen] at this
          exact ⟨_, this, by simpa using g1⟩) (by rw [List.length_drop]; omega) hsrc hvz
      obtain ⟨k1, k2⟩ := kill_ok h3 id
      rw [upd_comm _ (by omega)] at k1 k2
      exact ⟨_, K', .inl (hexec h1), h2, k1, h4.trans k2, h5⟩
end
end Go.Lg
