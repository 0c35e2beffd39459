/- The top of a law with arguments whose walk reads the package variable. -/
import Derived.Test.YtlmighkbeacjnaaGreatDoorCV
import Derived.Test.YtlmighkbeacjnaaGreatDoorYe
import Derived.Test.YtlmighkbeacjnaaGreatDoorEY
import Derived.Test.YtlmighkbeacjnaaGreatDoorRows
import Derived.Test.YtlmighkbeacjnaaGreatDoorCards
import Derived.Test.YtlmighkbeacjnaaGreatDoorTie
import Derived.ProofKit
import Derived.LaidLaws
import Derived.LaidHandle
import Derived.SevenTiedAt
import Derived.KernelRfl
set_option linter.unusedVariables false
set_option linter.unusedSimpArgs false
set_option maxRecDepth 100000
open Go Go.Lg
namespace Go.Proofs.YtlmighkbeacjnaaGreatDoor
open Go.ChangeShapes Go.WideShapes Go.ChangeAt Go.RowKit
/-- Data without interfaces. -/
inductive Dat : AV → Prop
  | bool (b : Bool) : Dat (.bool b)
  | int (k : IntKind) (n : Int) : Dat (.int k n)
  | view {rows : List (List AV)} (h1 : ∀ r, r ∈ rows → r ≠ []) (h : ∀ r x, r ∈ rows → x ∈ r → Dat x) : Dat (.view rows)
  | agg {xs : List AV} (h : ∀ x, x ∈ xs → Dat x) : Dat (.agg xs)
theorem dat_VR {K K' : Ctx} (hw : K'.w = K.w) (hro : ∀ b, K.ro b → (∃ o u, K.w.cell? ⟨b, o, none⟩ = some u ∧ ∀ t v, u ≠ .iface t v) → K'.ro b) {x : AV} {v : Value} (hd : Dat x) (h : VR K x v) : VR K' x v := by
  induction hd generalizing v with
  | bool b => cases h; exact .bool b
  | int k n => cases h; exact .int k n
  | @view rows h1 hx ih =>
    cases h with
    | view f hc hl ha hv =>
      refine .view f hc hl (fun hp => ?_) fun i j r x hr hj => ih r x (List.mem_of_getElem? hr) (List.mem_of_getElem? hj) (hv i j r x hr hj)
      obtain ⟨blk, off, e, hb, hcell⟩ := ha hp
      refine ⟨blk, off, e, hro blk hb ?_, fun i j hi hj => by rw [hw]; exact hcell i j hi hj⟩
      obtain ⟨r, hr⟩ : ∃ r, rows[0]? = some r := ⟨_, List.getElem?_eq_getElem hp⟩
      have hm := List.mem_of_getElem? hr
      have hn := h1 r hm
      cases r with
      | nil => exact absurd rfl hn
      | cons x r =>
        have hz := hl _ hm
        refine ⟨_, _, hcell 0 0 hp (by rw [← hz]; exact Nat.succ_pos _), fun t v hv0 => ?_⟩
        have hvr := hv 0 0 _ x hr rfl
        rw [hv0] at hvr
        have hdx := hx _ x hm (List.mem_cons_self ..)
        cases hdx <;> cases hvr
  | @agg xs hx ih =>
    cases h with
    | agg h1 h2 => exact .agg h1 fun i x hi => ih x (List.mem_of_getElem? hi) (h2 i x hi)
theorem dat_bytes (l : List UInt8) : Dat (.view (byteRows l)) := by
  refine .view (fun r hr => ?_) fun r x hr hx => ?_
  · simp only [byteRows, List.mem_map] at hr
    obtain ⟨b, _, rfl⟩ := hr
    simp
  · simp only [byteRows, List.mem_map] at hr
    obtain ⟨b, _, rfl⟩ := hr
    rcases List.mem_singleton.1 hx with rfl
    exact .int _ _
theorem dat_unit (u : Un) : ∀ x, x ∈ u.cells → Dat x := fun x hx => by
  simp only [Un.cells, List.mem_cons, List.not_mem_nil, or_false] at hx
  rcases hx with rfl | rfl | rfl | rfl
  · exact .int _ _
  · exact .int _ _
  · exact .int _ _
  · exact dat_bytes _
theorem dat_units (l : List Un) : Dat (.view (unRows l)) := by
  refine .view (fun r hr => ?_) fun r x hr hx => ?_
  · obtain ⟨b, _, rfl⟩ := List.mem_map.1 hr
    simp [Un.cells]
  · obtain ⟨b, _, rfl⟩ := List.mem_map.1 hr
    exact dat_unit b x hx
theorem dat_ints (l : List Int) : Dat (.view (intRows l)) := by
  refine .view (fun r hr => ?_) fun r x hr hx => ?_
  · simp only [intRows, List.mem_map] at hr
    obtain ⟨b, _, rfl⟩ := hr
    simp
  · simp only [intRows, List.mem_map] at hr
    obtain ⟨b, _, rfl⟩ := hr
    rcases List.mem_singleton.1 hx with rfl
    exact .int _ _
theorem dat_frames (f : Fs) : Dat (.agg f.cells) := by
  refine .agg fun x hx => ?_
  simp only [Fs.cells, List.mem_cons, List.not_mem_nil, or_false] at hx
  rcases hx with rfl | rfl
  · refine .view (fun r hr => ?_) fun r x hr hx => ?_
    · obtain ⟨b, _, rfl⟩ := List.mem_map.1 hr
      simp [Fr.cells]
    · obtain ⟨b, _, rfl⟩ := List.mem_map.1 hr
      simp only [Fr.cells, List.mem_cons, List.not_mem_nil, or_false] at hx
      rcases hx with rfl | rfl | rfl | rfl | rfl | rfl
      · exact .int _ _
      · exact .int _ _
      · exact dat_bytes _
      · exact dat_ints _
      · exact .bool _
      · exact .bool _
  · exact .int _ _
theorem dat_cf (c : Cf) : Dat (.agg c.cells) := by
  refine .agg fun x hx => ?_
  simp only [Cf.cells, List.mem_cons, List.not_mem_nil, or_false] at hx
  rcases hx with rfl | rfl | rfl | rfl | rfl | rfl | rfl | rfl | rfl <;> exact .int _ _
theorem calls_of_gb {P : Program} {f : FuncId} {b : Bool} {args : List AV} (w : World) (o : Obj) (ho : w.heap[0]? = some o) (hcell : ∀ j u, w.cell? ⟨0, j, none⟩ = some u → ∃ t v, u = .iface t v)
    (h : @AC P f args (@gH ⟨fun _ => o⟩) 1 (fun r H n => r = .ret (.bool b) ∧ H 0 = @gH ⟨fun _ => o⟩ 0)) (vs : Array Value) (hd : ∀ x, x ∈ args → Dat x) (hv : VRs (Ctx.top w) args vs.toList) :
    Calls P f vs w (fun e w' => e = .returned (.bool b) ∧ Below w.heap.size w w') := by
  letI : GO := ⟨fun _ => o⟩
  have h : AC P f args (gH) 1 (fun r H n => r = .ret (.bool b) ∧ H 0 = gH 0) := h
  have h0 : 0 < w.heap.size := (Array.getElem?_eq_some_iff.1 ho).1
  let K : Ctx := ⟨fun _ => 0, fun _ => 0, fun _ => 0, 1, fun b => b < w.heap.size ∧ b ≠ 0, w⟩
  have only : ∀ {id}, gH id ≠ none → id = 0 := fun {id} h => by
    cases e : gH id with
    | none => exact absurd e h
    | some b => exact (gH_only e).1
  have hr : Rel K (gH) := by
    refine ⟨fun id h => ?_, fun id h hb => hb.2 rfl, fun id b h => ?_, fun i j hi hj _ => by rw [only hi, only hj], fun b h => h.1⟩
    · rw [only h]; exact Nat.zero_lt_one
    · obtain ⟨rfl, rfl⟩ := gH_only h
      exact ⟨rfl, ho⟩
  have hv' : VRs K args vs.toList := ⟨hv.1, fun i x v hx hi => dat_VR (K := Ctx.top w) (K' := K) rfl (fun b hb ⟨o, u, hu, hn⟩ => ⟨hb, fun hb0 => by
    subst hb0
    obtain ⟨t, v, e⟩ := hcell _ _ hu
    exact hn t v e⟩) (hd x (List.mem_of_getElem? hx)) (hv.2 i x v hx hi)⟩
  refine (h K vs rfl hr hv').mono ?_
  rintro e w' ⟨K', H', r, rfl, hr', hst, hrr, rfl, hz⟩
  cases hrr with
  | ret hv =>
    refine ⟨by rw [hv.bool_inv], ⟨hst.os, hst.tape, hst.output, hst.size, fun k hk => ?_⟩⟩
    by_cases hk0 : k = 0
    · subst hk0
      obtain ⟨g1, g2⟩ := hr'.br 0 _ (hz.trans gH_zero)
      rw [g1] at g2
      exact g2.trans ho.symm
    · exact hst.same k hk (fun ⟨id, h1, h2⟩ => by
        rw [only h1] at h2
        exact hk0 h2.symm)
section
variable {H : Type} {enc : TypeId × Value → H} {W : World} {sp : Nat → Bool} {held : Bool}
theorem units_open {n : Nat} {cs : List Value} {x : DataW H × List MemPlace} (h : DataW.trod enc Tryz.prog W 0 sp held n 27 cs = some x) : ∃ l : List Un, ∃ v, cs = [v] ∧ VR (Ctx.top W) (.view (unRows l)) v := by
  have e58 : Tryz.prog.cellsOf 58 = 4 := by kernel_rfl
  rcases trod_slice Tryz.underlying27 h with rfl | ⟨a, len, cap, m, rfl, hlc, hel⟩
  · exact ⟨[], _, rfl, empty_view (.empty none)⟩
  · have key : ∀ i, ∃ u : Un, i < len → ∃ cs, W.cells? 0 (a.add (i * 4)) 4 = some cs ∧ VRs (Ctx.top W) u.cells cs := by
      intro i
      by_cases hi : i < len
      · obtain ⟨cs, y, h1, h2⟩ := hel i hi
        obtain ⟨u, hu⟩ := unit_open h2
        rw [e58] at h1
        exact ⟨u, fun _ => ⟨cs, h1, hu⟩⟩
      · exact ⟨⟨0, 0, 0, []⟩, fun h => absurd h hi⟩
    obtain ⟨f, hf⟩ := Classical.axiomOfChoice key
    refine ⟨(List.range len).map f, _, rfl, ?_⟩
    have e : unRows ((List.range len).map f) = (List.range len).map fun i => (f i).cells := by simp [unRows]
    rw [e]
    exact view_open hlc (by decide) _ fun i hi => ⟨rfl, hf i hi⟩
set_option maxRecDepth 100000 in
theorem units_arg {w : World} {r : Reach} {base : Nat} {v : Value} {d : DataW H} {p : List MemPlace} (hv : Value.okWide Tryz.prog w r base 27 v) (ht : DataW.Trod enc Tryz.prog W 0 sp held 27 v d p) : ∃ l : List Un, VR (Ctx.top W) (.view (unRows l)) v := by
  have hc : v.cells.toList = [v] := by
    simp only [Value.okWide, Tryz.underlying27] at hv
    simp only [Cell.okWide, Tryz.underlying27] at hv
    cases v <;> simp_all [Cell.ok, Value.cells]
  obtain ⟨n, hn⟩ := ht
  rw [hc] at hn
  obtain ⟨l, w, e, h⟩ := units_open hn
  cases e
  exact ⟨l, h⟩
end
theorem zet : Tryz.prog.globalNamed "errors.errorType" = some 0 := by kernel_rfl
theorem zrt : (Tryz.prog.cutTypes.find? (·.1 == "internal/reflectlite.rtype")).map (·.2) = some 158 := by kernel_rfl
theorem zOne : ((List.range 246).filter fun t => Tryz.prog.rowNamed t [101, 114, 114, 111, 114]) = [81] := by kernel_rfl
theorem zSize : Tryz.prog.types.size = 246 := by kernel_rfl
noncomputable def LD : List (String × DataW Unit) := [("errors.errorType", Rows.laid_errors_errorType)]
/-- What the condition gives: the variable's block has one cell. -/
theorem handle_of_laid {W : World} (h : laidMetH Tryz.prog LD W) : ∀ i, W.cell? ⟨0, i, none⟩ = (#[Value.iface 158 (.agg #[.pointer (some ⟨1, 81, none⟩)])] : Array Value)[i]? := by
  have h' : laidMet Tryz.prog [] W ∧ handlesMet Tryz.prog LD W := h
  obtain ⟨name, u, ty, e1, e2, e3, e4, e5⟩ := h'.2 _ (List.mem_singleton.2 rfl)
  have en : name = [101, 114, 114, 111, 114] := (Option.some.inj e1).symm
  subst en
  obtain rfl := Option.some.inj (zrt.symm.trans e2)
  have hm : ty ∈ (List.range 246).filter fun t => Tryz.prog.rowNamed t [101, 114, 114, 111, 114] := List.mem_filter.2 ⟨List.mem_range.2 (by rw [← zSize]; exact e3), e4⟩
  rw [zOne] at hm
  obtain rfl := List.mem_singleton.1 hm
  have hh : typeHandle Tryz.prog 81 = .pointer (some ⟨1, 81, none⟩) := by kernel_rfl
  rw [hh] at e5
  exact fun i => World.var?_cell zet e5 i
theorem laid_cells {W : World} (h : laidMetH Tryz.prog LD W) : ∀ j u, W.cell? ⟨0, j, none⟩ = some u → ∃ t v, u = .iface t v := fun j u hu => by
  rw [handle_of_laid h j] at hu
  obtain ⟨hj, e⟩ := Array.getElem?_eq_some_iff.1 hu
  have : j = 0 := by simpa using hj
  subst this
  exact ⟨_, _, e.symm⟩
theorem obj_of_laid {W : World} (h : laidMetH Tryz.prog LD W) : ∃ o, W.heap[0]? = some o ∧ @GoOK ⟨fun _ => o⟩ := by
  have hc := handle_of_laid h 0
  unfold World.cell? at hc
  split at hc
  · rename_i c ty fr hh
    exact ⟨_, hh, c, ty, fr, rfl, by simpa using hc⟩
  · simp at hc
/-- A world that meets the condition. -/
noncomputable def laidWorld (os : Os) : World :=
  let w0 := World.holding Tryz.prog os ⟨#[], #[], []⟩
  { w0 with heap := w0.heap.modify 0 fun
      | .cells _ t frozen => .cells #[.iface 158 (.agg #[.pointer (some ⟨1, 81, none⟩)])] t frozen
      | o => o }
theorem laidWorld_met (os : Os) (args : Array Value) : laidMetH Tryz.prog LD ((laidWorld os).forCall (fun _ _ => 0) ⟨#[], args, []⟩).memory :=
  laidMetH_of_parts (laidMet_nil _ _) (by kernel_rfl)
theorem trodAll_add {H : Type} {enc : TypeId × Value → H} {P : Program} {w : World} {base : Nat} {spare : Nat → Bool} {held : Bool} {t : TypeId} {ts : List TypeId} {v : Value} {vs : List Value} {d : DataW H} {ds : List (DataW H)} {p ps : List MemPlace} (h : DataW.Trod enc P w base spare held t v d p) (h' : DataW.TrodAll enc P w base spare held ts vs ds ps) : DataW.TrodAll enc P w base spare held (t :: ts) (v :: vs) (d :: ds) (p ++ ps) := ⟨p, ps, h, h', rfl⟩
end Go.Proofs.YtlmighkbeacjnaaGreatDoor

