/- One operation, run: appends. -/
import Derived.Test.YtlmighkbeacjnaaLhB
set_option linter.unusedSimpArgs false
set_option linter.unusedSectionVars false
namespace Go.Lg
open Go
set_option linter.unusedVariables false
section
variable {P : Program} {T : TT} (hT : TOK P T) {N : Nat} {o : Oper} {tm : Nat → AV} {h : Heap} {n : Nat} {df : List Nat}
theorem sameH_sound {x : Option AV} {r : AV × HC} (e : sameH x = some r) : x = some r.1 ∧ r.2 = .same := by
  cases x <;> simp [sameH] at e
  subst e; exact ⟨rfl, rfl⟩
theorem app_exec {K : Ctx} {a : Act} {t t2 : TypeId} {x z : Operand} {s v : Value} {w' : World} (hop : o.op = .call { callee := .builtin .append, args := #[x, z], argTypes := #[t, t2] }) (hx : a.eval x = s)
    (h1 : (Builtin.append_ #[t, t2] o.type #[s, a.eval z]).run P K.w = .ok v w') : (execOp a.eval o).run P K.w = .ok (.value v) w' := by
  unfold execOp; rw [hop]
  simp only [resolve, List.map_toArray, List.map_cons, List.map_nil]
  rw [run_bindv (run_purev _ _)]
  unfold invoke
  simp only [builtin]
  rw [hx, run_bindv h1]; rfl
include hT in
theorem app_room_run {t t2 ty e : TypeId} {ti ei i2 : TI} {w w' : World} {a : Option Addr} {len c k : Nat} {y : Value} {arr : Array Value} (ht : T t = some ti) (hd : ti.desc = .slice e) (he : T e = some ei) (ht2 : T t2 = some i2) (hn2 : notInt i2.desc = true)
    (l1 : (Builtin.lenOf y).run P w = .ok k w) (l2 : (Builtin.firstCells ei.size k y).run P w = .ok arr w) (hroom : len + k ≤ c)
    (hst : (match a with | some a => storeCells (a.add (len * ei.size)) arr.toList | none => pure () : Sem Unit).run P w = .ok () w') :
    (Builtin.append_ #[t, t2] ty #[.slice a len c, y]).run P w = .ok (.slice a (len + k) c) w' := by
  have hu := r_und hT ht w
  rw [hd] at hu
  unfold Builtin.append_
  simp only [List.getElem?_toArray, List.getElem?_cons_zero, List.getElem?_cons_succ]
  rw [run_bindv hu]
  simp only
  rw [run_bindv (r_size hT he w)]
  rw [run_bindv (r_und hT ht2 w)]
  refine (run_bindv (a := false) (w' := w) ?hzz).trans ?_
  case hzz => cases hh : i2.desc <;> first | rfl | (rw [hh] at hn2; cases hn2)
  simp only [Bool.false_eq_true, if_false, Bool.not_false, if_true]
  rw [run_bindv l1, if_pos hroom, run_bindv l2]
  cases a with
  | none => simp only at hst ⊢; cases hst; rfl
  | some a => simp only at hst ⊢; rw [run_bindv hst]; rfl
include hT in
/-- Nothing is appended. -/
theorem opv_app_zero {t t2 e : TypeId} {ti ei i2 : TI} {x z : Operand} {a src : AV} {news : List AV} (hop : o.op = .call { callee := .builtin .append, args := #[x, z], argTypes := #[t, t2] }) (ht : T t = some ti) (hd : ti.desc = .slice e) (he : T e = some ei) (ht2 : T t2 = some i2) (hn2 : notInt i2.desc = true)
    (hx : evo tm x = some a) (hz : evo tm z = some src) (hs : SrcA h ei.size src 0 news) (ha : a = .empty ∨ ∃ id off len cap sz, a = .slice id off len cap sz) : OpV P N o ⟨tm, h, n, df⟩ a h n := by
  refine opv_of fun K ac hsr => ?_
  have hvx := evo_sound hsr.tr hx
  have hvz := evo_sound hsr.tr hz
  obtain ⟨l1, arr, l2, l3⟩ := src_run (P := P) hsr.rel hs hvz
  have hl0 := hs.length
  have harr : arr = #[] := by
    have := l3.1; rw [hl0] at this; simp at this; exact this
  subst harr
  generalize hhx : ac.eval x = vx at hvx
  have hsl : ∃ ad len c, vx = .slice ad len c ∧ len ≤ c := by
    rcases ha with rfl | ⟨id, off, len, cap, sz, rfl⟩
    · cases hvx; exact ⟨_, _, _, rfl, Nat.le_refl _⟩
    · cases hvx; exact ⟨_, _, _, rfl, by assumption⟩
  obtain ⟨ad, len, c, rfl, hlc⟩ := hsl
  exact ⟨_, app_exec hop hhx (app_room_run hT ht hd he ht2 hn2 l1 l2 (by omega) (by cases ad <;> rfl)), hvx⟩
include hT in
/-- What is appended finds room. -/
theorem opv_app_room {t t2 e : TypeId} {ti ei i2 : TI} {x z : Operand} {src : AV} {news cs : List AV} {id off len k c : Nat} (hop : o.op = .call { callee := .builtin .append, args := #[x, z], argTypes := #[t, t2] }) (ht : T t = some ti) (hd : ti.desc = .slice e) (he : T e = some ei) (ht2 : T t2 = some i2) (hn2 : notInt i2.desc = true)
    (hx : evo tm x = some (.slice id off len (some c) ei.size)) (hz : evo tm z = some src) (hs : SrcA h ei.size src k news) (hH : h id = some (.cells cs e)) (hk : 0 < k) (hroom : len + k ≤ c) (hl : off + c * ei.size ≤ cs.length) (hsc : ∀ y, y ∈ news → scalA y = true) :
    OpV P N o ⟨tm, h, n, df⟩ (.slice id off (len + k) (some c) ei.size) (upd h id (some (.cells (wr cs (off + len * ei.size) news) e))) n := by
  intro K ac hsr
  have hvx := evo_sound hsr.tr hx
  have hvz := evo_sound hsr.tr hz
  obtain ⟨l1, arr, l2, l3⟩ := src_run (P := P) hsr.rel hs hvz
  generalize hhx : ac.eval x = vx at hvx
  cases hvx with
  | @slice _ _ _ _ _ o' c' hid ho hc hl' hcap =>
    have hcc := hcap c rfl
    subst hcc
    have hc0 : 0 < c' := by omega
    have hmul : (len + k) * ei.size ≤ c' * ei.size := Nat.mul_le_mul_right _ hroom
    rw [Nat.add_mul] at hmul
    have hnl := hs.length
    obtain ⟨w', h1, h2, h3⟩ := store_cells (P := P) news arr.toList K h cs (off + len * ei.size) 0 hsr.rel hH (by omega) l3 hsc
    refine ⟨.slice (some ⟨K.base id, o', none⟩) (len + k) c', K.at_ w', .inl (app_exec hop hhx (app_room_run hT ht hd he ht2 hn2 l1 l2 hroom ?_)), hsr.next, h2, h3, ?_⟩
    · simp only [add_plain]
      rw [ho hc0, Nat.add_assoc]
      exact h1
    · exact (VR.slice (K := K) (cap := some c') hid ho hc hroom hcap).mono (h3.ext hsr.rel)
include hT in
/-- What is appended finds no room. -/
theorem opv_app_grow {t t2 e : TypeId} {ti ei i2 : TI} {x z : Operand} {src : AV} {news cs : List AV} {id off len k c : Nat} (hop : o.op = .call { callee := .builtin .append, args := #[x, z], argTypes := #[t, t2] }) (ht : T t = some ti) (hd : ti.desc = .slice e) (he : T e = some ei) (ht2 : T t2 = some i2) (hn2 : notInt i2.desc = true)
    (hx : evo tm x = some (.slice id off len (some c) ei.size)) (hz : evo tm z = some src) (hs : SrcA h ei.size src k news) (hH : h id = some (.cells cs e)) (hroom : c < len + k) (hl : off + len * ei.size ≤ cs.length)
    (hsm : (2 * (len + k) + 768) * ei.bytes ≤ 281474976710656) (hsm2 : len + k ≤ 4611686018427387904) (hb : 0 < ei.bytes) :
    OpV P N o ⟨tm, h, n, df⟩ (.slice n 0 (len + k) none ei.size) (upd h n (some (.cells ((cs.drop off).take (len * ei.size) ++ news) e))) (n + 1) := by
  intro K ac hsr
  have hvx := evo_sound hsr.tr hx
  have hvz := evo_sound hsr.tr hz
  have hid0 : h id ≠ none := by rw [hH]; simp
  have hidlt := hsr.rel.lt id hid0
  generalize hhx : ac.eval x = vx at hvx
  cases hvx with
  | @slice _ _ _ _ _ o' c' hid ho hc hl' hcap =>
    have hcc := hcap c rfl
    subst hcc
    have hn := hsr.next
    simp only at hn
    rw [← hn]
    obtain ⟨K', c2, h1, h2, h3, h4, h5⟩ := grow_run hT (ty := o.type) hsr.rel ht hd he ht2 hn2 (a := some ⟨K.base id, o', none⟩) (len := len) (c := c') (olds := (cs.drop off).take (len * ei.size)) hroom hsm hsm2 hb (fun K' hE hsame => by
      by_cases hz : len * ei.size = 0
      · refine ⟨#[], by simp [Builtin.firstCells, hz, loadCells, loadCellsFrom], ?_⟩
        rw [hz, List.take_zero]; exact VRs.nil K'
      · have hp : 0 < len := Nat.pos_of_ne_zero (fun e => hz (by rw [e]; simp))
        rw [ho (by omega)]
        obtain ⟨m1, m2, m3⟩ := hE.mu id hidlt
        have hbr := (hsr.rel.br id _ hH).mono hE hidlt (hsame _ (hsr.rel.size_lt hid0))
        obtain ⟨vs, g1, g2⟩ := own_cells hbr off
        rw [m1, m2] at g2
        have hlen : (vs.take (len * ei.size)).length = len * ei.size := by rw [List.length_take, g1.1, List.length_drop]; omega
        have := run_loadCells_list (P := P) (w := K'.w) ⟨K.base id, K.boff id + off, none⟩ (vs.take (len * ei.size)) (fun j v hj => by
          rw [add_plain]; rw [List.getElem?_take] at hj
          split at hj
          · exact g2 j v hj
          · cases hj)
        rw [hlen] at this
        exact ⟨_, this, by simpa using g1.take _⟩) (by rw [List.length_take, List.length_drop]; omega) hs hvz
    exact ⟨_, K', .inl (app_exec hop hhx h1), h2, h3, h4, h5⟩
include hT in
theorem appA_sound {t t2 : TypeId} {x z : Operand} {a b : AV} {r : AV × HC} (hop : o.op = .call { callee := .builtin .append, args := #[x, z], argTypes := #[t, t2] }) (hx : evo tm x = some a) (hz : evo tm z = some b)
    (e : appA T h n t t2 a b = some r) : OpV P N o ⟨tm, h, n, df⟩ r.1 (r.2.h h n) (r.2.n n) := by
  unfold appA at e
  split at e
  · rename_i el ei hel
    obtain ⟨ti, ht, hd, he⟩ := elemOf_sound hel
    split at e
    · rename_i i2 ht2
      split at e
      · rename_i hn2
        split at e
        · rename_i k news hsrc
          have hsr := srcA_sound hsrc
          split at e
          · rename_i hk
            have hk0 : k = 0 := Nat.eq_of_beq_eq_true hk
            subst hk0
            split at e
            · cases e; exact opv_app_zero hT hop ht hd he ht2 hn2 hx hz hsr (.inl rfl)
            · cases e; exact opv_app_zero hT hop ht hd he ht2 hn2 hx hz hsr (.inr ⟨_, _, _, _, _, rfl⟩)
            · cases e
          · rename_i hk
            have hk0 : 0 < k := Nat.pos_of_ne_zero fun h0 => hk (by subst h0; rfl)
            split at e
            · split at e
              · rename_i hok
                cases e
                obtain ⟨h1, h2, h3⟩ := okSize_sound hok
                exact opv_append_new hT (σ := ⟨tm, h, n, df⟩) hop ht hd he ht2 hn2 hx hz hsr hk0 h1 h2 h3
              · cases e
            · split at e
              · rename_i hsz
                split at e
                · rename_i hok
                  obtain ⟨h1, h2, h3⟩ := okSize_sound hok
                  split at e
                  · rename_i hsc
                    have hsc' : ∀ c, c ∈ news → scalA c = true := fun c hc => List.all_eq_true.1 hsc c hc
                    split at e
                    · rename_i cs e' hH
                      split at e
                      · rename_i hee
                        subst hsz hee
                        unfold appO at e
                        split at e
                        · split at e
                          · rename_i hl
                            cases e
                            exact opv_append_own hT (σ := ⟨tm, h, n, df⟩) hop ht hd he ht2 hn2 hx hz hH (Nat.eq_of_beq_eq_true hl) hsr hsc' h1 h2 h3
                          · cases e
                        · split at e
                          · rename_i hr
                            split at e
                            · rename_i hl
                              cases e
                              exact opv_app_room hT hop ht hd he ht2 hn2 hx hz hsr hH hk0 (Nat.le_of_ble_eq_true hr) (Nat.le_of_ble_eq_true hl) hsc'
                            · cases e
                          · rename_i hr
                            split at e
                            · rename_i hl
                              cases e
                              exact opv_app_grow hT hop ht hd he ht2 hn2 hx hz hsr hH (Nat.lt_of_not_le fun hh => hr (Nat.ble_eq_true_of_le hh)) (Nat.le_of_ble_eq_true hl) h1 h2 h3
                            · cases e
                      · cases e
                    · cases e
                  · cases e
                · cases e
              · cases e
            · cases e
        · cases e
      · cases e
    · cases e
  · cases e
end
end Go.Lg
