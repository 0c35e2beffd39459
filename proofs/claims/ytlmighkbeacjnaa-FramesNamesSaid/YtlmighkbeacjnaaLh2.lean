/- make of slices; bytes told as a text, wherever they lie; min; typeAssert. -/
import Derived.Test.YtlmighkbeacjnaaLh1
set_option linter.unusedSimpArgs false
set_option linter.unusedSectionVars false
namespace Go.Lg
open Go
set_option linter.unusedVariables false
section
variable {P : Program} {T : TT} (hT : TOK P T) {N : Nat} {o : Oper} {σ : St}
include hT
theorem opv_makeSlice {t e : TypeId} {x y : Operand} {k1 k2 : IntKind} {l c : Nat} {ti ei : TI} (hop : o.op = .makeSlice t x y) (hx : evo σ.tm x = some (.int k1 (l : Int))) (hy : evo σ.tm y = some (.int k2 (c : Int))) (ht : T t = some ti) (hd : ti.desc = .slice e) (he : T e = some ei)
    (hlc : l ≤ c) (hb : ei.bytes * c ≤ 281474976710656) (hc : c ≤ 4611686018427387904) :
    OpV P N o σ (.slice σ.n 0 l (some c) ei.size) (upd σ.h σ.n (some (.cells (repA c ei.zero) e))) (σ.n + 1) := by
  intro K a hs
  have hvx := (evo_sound hs.tr hx).int_inv
  have hvy := (evo_sound hs.tr hy).int_inv
  have hu := r_und hT ht K.w
  rw [hd] at hu
  obtain ⟨tj, z, g1, g2, g3, g4, g5, g6, g7⟩ := hT.info e ei he
  have hz := repA_VRs (n := c) (g7 K)
  have hzl : ei.zero.length = ei.size := by have := (g7 K).1; rw [← this]; simpa using g5
  have hti : (typeInfo e).run P K.w = .ok tj K.w := by simp [typeInfo, program, Sem.run, g1]
  have hzv : (zeroValue e).run P K.w = .ok z K.w := by simp [zeroValue, typeInfo, program, Sem.run, g1, g4]
  let cells : Array Value := (Array.range (c * z.cells.size)).map (fun i => z.cells[i % z.cells.size]!)
  obtain ⟨k3, k4⟩ := newOwn_ok hs.rel (new_cells hs.rel (arr := cells) (t := e) hz)
  have hsz : cells.size = c * ei.size := by simp [cells, g5]
  have hw1 : IntKind.i64.wrap (l : Int) = l := wrap64 (by omega) (by omega)
  have hw2 : IntKind.i64.wrap (c : Int) = c := wrap64 (by omega) (by omega)
  refine ⟨.slice (some ⟨K.w.heap.size, 0, none⟩) l c, K.newOwn (.cells cells e) cells.size, .inl ?_, by rw [← hs.next]; rfl, by rw [← hs.next]; exact k3, by rw [← hs.next]; exact k4, by
    rw [← hs.next]; exact slice_new (some c) (by rw [hsz]; exact Nat.le_refl _) hlc (by simp)⟩
  unfold execOp; rw [hop]
  refine run_v ?_
  unfold Instr.makeSlice
  rw [run_bindv hu]
  simp only [hvx, hvy]
  have ha1 : (asInt (.int k1 (l : Int))).run P K.w = .ok (l : Int) K.w := rfl
  have ha2 : (asInt (.int k2 (c : Int))).run P K.w = .ok (c : Int) K.w := rfl
  rw [run_bindv ha1, run_bindv ha2, run_bindv hti]
  simp only [hw1, hw2]
  have hbound : (tj.bytes : Int) * (c : Int) ≤ 281474976710656 := by rw [g3]; have : ((ei.bytes * c : Nat) : Int) ≤ ((281474976710656 : Nat) : Int) := Int.ofNat_le.2 hb; rw [Int.natCast_mul] at this; omega
  have htl : (decide ((c : Int) < 0) || decide ((tj.bytes : Int) * (c : Int) > 2 ^ 48)) = false := by
    rw [Bool.or_eq_false_iff]
    exact ⟨decide_eq_false (by omega), decide_eq_false (by omega)⟩
  have hl0 : ¬ ((l : Int) < 0) := by omega
  have hl1 : ¬ ((l : Int) > (c : Int)) := by omega
  simp only [htl, hl0, hl1, decide_false, Bool.or_self, Bool.or_false, Bool.false_eq_true, if_false]
  rw [run_bindv (run_askRoom P _ K.w), run_bindv (r_size hT he K.w)]
  simp only [Int.toNat_natCast]
  by_cases h0 : c * ei.size = 0
  · rw [if_pos h0]
    rw [run_bindv (run_purev (#[] : Array Value) K.w)]
    have e1 : (Array.range (c * ei.size)).map (fun i => (#[] : Array Value)[i % (#[] : Array Value).size]!) = cells := by
      have : cells = #[] := Array.eq_empty_of_size_eq_zero (by rw [hsz]; exact h0)
      rw [this, h0]; simp
    rw [e1]
    rfl
  · rw [if_neg h0]
    rw [run_bindv hzv, run_bindv (run_purev z.cells K.w)]
    have e1 : (Array.range (c * ei.size)).map (fun i => z.cells[i % z.cells.size]!) = cells := by
      simp only [cells, g5]
    rw [e1]
    rfl
end
def bytesOf : List AV → Option (List UInt8)
  | [] => some []
  | .int .u8 n :: r => if 0 ≤ n ∧ n < 256 then (match bytesOf r with
    | some bs => some (UInt8.ofNat n.toNat :: bs)
    | none => none) else none
  | _ :: _ => none
theorem bytesOf_sound : ∀ {xs : List AV} {bs : List UInt8}, bytesOf xs = some bs → xs = bs.map fun b => .int .u8 b.toNat
  | [], bs, h => by cases h; rfl
  | x :: xs, bs, h => by
    unfold bytesOf at h
    split at h
    · rename_i heq; cases heq
    · rename_i n r heq
      cases heq
      split at h
      · rename_i hn
        split at h
        · rename_i bs' hb
          cases h
          rw [bytesOf_sound hb]
          have : ((UInt8.ofNat n.toNat).toNat : Int) = n := by
            rw [UInt8.toNat_ofNat']
            omega
          simp only [List.map_cons, this]
        · cases h
      · cases h
    · cases h
theorem opv_bytes {P : Program} {T : TT} (hT : TOK P T) {N : Nat} {o : Oper} {σ : St} {s d e : TypeId} {x : Operand} {bs : List UInt8} {a : AV} {k : Nat} {ti ei di : TI} (hop : o.op = .convert s d x) (hs : T s = some ti) (hd : ti.desc = .slice e) (he : T e = some ei) (hei : ei.desc = .int .u8) (hdd : T d = some di) (hdi : di.desc = .string)
    (hx : evo σ.tm x = some a) (ha : ∀ s, a ≠ .str s) (hsrc : SrcA σ.h 1 a k (bs.map fun b => .int .u8 b.toNat)) : OpV P N o σ (.str bs) σ.h σ.n := by
  refine opv_of fun K ac hsr => ?_
  have hv := evo_sound hsr.tr hx
  obtain ⟨l1, arr, l2, l3⟩ := src_run (P := P) hsr.rel hsrc hv
  have u1 := hT.und _ _ hs; rw [hd] at u1
  have u2 := hT.und _ _ he; rw [hei] at u2
  have u3 := hT.und _ _ hdd; rw [hdi] at u3
  have harr : arr.toList = (bs.map fun b => (b.toNat : Int)).map (Value.int .u8) := by
    refine List.ext_getElem? fun i => ?_
    by_cases hi : i < bs.length
    · have h1 : (bs.map fun b => AV.int .u8 b.toNat)[i]? = some (.int .u8 (bs[i]).toNat) := by rw [List.getElem?_map, List.getElem?_eq_getElem hi]; rfl
      have hl : i < arr.toList.length := by rw [l3.1]; simpa using hi
      have h2 : arr.toList[i]? = some (arr.toList[i]) := List.getElem?_eq_getElem hl
      have h3 := (l3.2 i _ _ h1 h2).int_inv
      rw [h2, h3, List.getElem?_map, List.getElem?_map, List.getElem?_eq_getElem hi]; rfl
    · rw [List.getElem?_eq_none (by rw [l3.1]; simpa using hi), List.getElem?_eq_none (by simpa using hi)]
  have hsl : ∃ ad len c, ac.eval x = .slice ad len c := by
    cases a <;> simp only [SrcA] at hsrc <;> first | exact hsrc.elim | skip
    · exact absurd rfl (ha _)
    · obtain ⟨a, c, _, hv, _⟩ := view_cells hv; exact ⟨_, _, _, hv⟩
    · generalize ac.eval x = v at hv; cases hv; exact ⟨_, _, _, rfl⟩
    · generalize ac.eval x = v at hv; cases hv; exact ⟨_, _, _, rfl⟩
  obtain ⟨ad, len, c, hvs⟩ := hsl
  rw [hvs] at l1 l2
  have hk : len = k := by
    have : (Builtin.lenOf (.slice ad len c)).run P K.w = .ok len K.w := rfl
    rw [this] at l1; cases l1; rfl
  subst hk
  have key : ∃ b : ByteArray, (Conv.bytesToString (.slice ad len c)).run P K.w = .ok (.string b) K.w ∧ b.data.toList = bs := by
    cases ad with
    | none =>
      have : arr = #[] := by
        have : (Builtin.firstCells 1 len (.slice none len c)).run P K.w = .ok #[] K.w := rfl
        rw [this] at l2; cases l2; rfl
      rw [this] at harr
      have hbs : bs = [] := by cases bs with
        | nil => rfl
        | cons b r => simp at harr
      subst hbs
      exact ⟨.empty, rfl, rfl⟩
    | some ad =>
      have h2 : (loadCells ad (len * 1)).run P K.w = .ok arr K.w := l2
      rw [Nat.mul_one] at h2
      have harr' : arr = ((bs.map fun b => (b.toNat : Int)).map (Value.int .u8)).toArray := by rw [← harr]
      rw [harr'] at h2
      refine ⟨_, run_bytesToString K.w ad len c _ h2, ?_⟩
      rw [fold_push]; rfl
  obtain ⟨b, k1, k2⟩ := key
  refine ⟨.string b, ?_, by rw [← k2]; exact .str b⟩
  unfold execOp; rw [hop]
  refine run_v ?_
  rw [hvs, run_convert_bytes_string K.w s d e _ _ _ u1 u2 u3]
  exact k1
/-- A type assertion to a type that is no interface. -/
def assA (T : TT) (t : TypeId) (x : AV) (ok : Bool) : Option AV :=
  match T t with
  | some i => if isIface i.desc = true then none else match x with
    | .iface t' v => if Nat.beq t' t = true then some (if ok then .tuple [v, .bool true] else v) else if ok then (match zeroA i with
      | some z => some (.tuple [z, .bool false])
      | none => none) else none
    | .nilIface => if ok then (match zeroA i with
      | some z => some (.tuple [z, .bool false])
      | none => none) else none
    | _ => none
  | none => none
theorem opv_typeAssert {P : Program} {T : TT} (hT : TOK P T) {N : Nat} {o : Oper} {σ : St} {x : Operand} {xt t : TypeId} {ok : Bool} {a y : AV} (hop : o.op = .typeAssert x xt t ok) (hx : evo σ.tm x = some a) (hy : assA T t a ok = some y) : OpV P N o σ y σ.h σ.n := by
  refine opv_of fun K ac hs => ?_
  have hv := evo_sound hs.tr hx
  unfold assA at hy
  split at hy
  · rename_i i ht
    split at hy
    · cases hy
    · rename_i hni
      have hu := r_und hT ht K.w
      have key : ∀ u, (Instr.typeAssert (ac.eval x) xt t ok).run P K.w = .ok u K.w → VR K y u → ∃ v, (execOp ac.eval o).run P K.w = .ok (.value v) K.w ∧ VR K y v := fun u h1 h2 => ⟨u, by unfold execOp; rw [hop]; exact run_v h1, h2⟩
      split at hy
      · rename_i t' v
        generalize hh : ac.eval x = w at hv key
        cases hv
        rename_i u hvu
        split at hy
        · rename_i hb
          have hb := Nat.eq_of_beq_eq_true hb
          subst hb
          cases hy
          refine key (if ok then .tuple #[u, .bool true] else u) ?_ ?_
          · unfold Instr.typeAssert
            rw [run_bindv hu]
            cases hd : i.desc <;> first | (rw [hd] at hni; exact absurd rfl hni) | (simp [Sem.run_pure]) 
          · cases ok with
            | false => exact hvu
            | true => exact VR.tuple_.2 (.cons hvu (.cons (.bool _) (.nil K)))
        · rename_i hb
          have hne : t' ≠ t := fun h => hb (by subst h; exact Nat.beq_refl _)
          split at hy
          · rename_i hok
            subst hok
            split at hy
            · rename_i z hz
              cases hy
              obtain ⟨zv, z1, z2⟩ := r_zeroA hT ht hz K.w
              refine key (.tuple #[zv, .bool false]) ?_ (VR.tuple_.2 (.cons (z2 K) (.cons (.bool _) (.nil K))))
              unfold Instr.typeAssert
              rw [run_bindv hu]
              cases hd : i.desc <;> first | (rw [hd] at hni; exact absurd rfl hni) | (simp only [hne, if_false, if_true]; rw [run_bindv z1]; rfl)
            · cases hy
          · cases hy
      · generalize hh : ac.eval x = w at hv key
        cases hv
        split at hy
        · rename_i hok
          subst hok
          split at hy
          · rename_i z hz
            cases hy
            obtain ⟨zv, z1, z2⟩ := r_zeroA hT ht hz K.w
            refine key (.tuple #[zv, .bool false]) ?_ (VR.tuple_.2 (.cons (z2 K) (.cons (.bool _) (.nil K))))
            unfold Instr.typeAssert
            rw [run_bindv hu]
            cases hd : i.desc <;> first | (rw [hd] at hni; exact absurd rfl hni) | (simp only [if_true]; rw [run_bindv z1]; rfl)
          · cases hy
        · cases hy
      · cases hy
  · cases hy
end Go.Lg
