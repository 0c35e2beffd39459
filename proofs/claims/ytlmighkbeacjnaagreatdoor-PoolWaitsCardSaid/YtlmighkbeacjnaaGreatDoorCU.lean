/- Opens the arguments of the laws of frames. -/
import Derived.Test.YtlmighkbeacjnaaGreatDoorLm3
import Derived.Test.YtlmighkbeacjnaaGreatDoorYb
import Derived.Test.YtlmighkbeacjnaaGreatDoorCT
open Go Go.Lg
namespace Go.Proofs.YtlmighkbeacjnaaGreatDoor
open Go.ChangeShapes Go.WideShapes Go.ChangeAt Go.RowKit
set_option linter.unusedVariables false
set_option linter.unusedSimpArgs false
set_option maxRecDepth 100000
theorem add_eq {a : Addr} (hs : a.spot = none) (m j : Nat) : (a.add m).add j = ⟨a.block, a.off + m + j, none⟩ := by
  obtain ⟨b, o, s⟩ := a
  cases hs
  unfold Addr.add
  by_cases hm : m = 0 <;> by_cases hj : j = 0 <;> simp [hm, hj]
theorem cell_spot {w : World} {a : Addr} {u : Value} (h : w.cell? a = some u) : a.spot = none ∧ a.block < w.heap.size := by
  unfold World.cell? at h
  split at h
  · rename_i c _ _ hb
    refine ⟨?_, (Array.getElem?_eq_some_iff.1 hb).1⟩
    cases hs : a.spot with
    | none => rfl
    | some x => rw [hs] at h; simp at h
  · cases h
theorem view_open {W : World} {a : Addr} {len cap esz : Nat} (hcap : len ≤ cap) (hz : 0 < esz) (g : Nat → List AV)
    (hg : ∀ i, i < len → (g i).length = esz ∧ ∃ cs, W.cells? 0 (a.add (i * esz)) esz = some cs ∧ VRs (Ctx.top W) (g i) cs) : VR (Ctx.top W) (.view ((List.range len).map g)) (.slice (some a) len cap) := by
  have hl : ((List.range len).map g).length = len := by simp
  have key : VR (Ctx.top W) (.view ((List.range len).map g)) (.slice (some a) ((List.range len).map g).length cap) := by
    refine view_mk (esz := esz) (by rw [hl]; exact hcap) ?_ ?_
    · intro r hr
      obtain ⟨i, hi, rfl⟩ := List.mem_map.1 hr
      exact (hg i (List.mem_range.1 hi)).1
    · intro hp
      rw [hl] at hp
      obtain ⟨h1, cs, h2, h3⟩ := hg 0 hp
      obtain ⟨_, h4, h5⟩ := World.cells?_some h2
      have h6 := h5 0 hz
      have e0 : (a.add (0 * esz)).add 0 = a := by simp [Addr.add]
      rw [e0, List.getElem?_eq_getElem (by omega)] at h6
      obtain ⟨hs, hb⟩ := cell_spot h6
      refine ⟨a.block, a.off, by obtain ⟨b, o, s⟩ := a; cases hs; rfl, hb, ?_⟩
      intro i r hr
      have hi : i < len := by
        have := (List.getElem?_eq_some_iff.1 hr).1
        simpa using this
      have hr' : g i = r := by simpa [hi] using hr
      subst hr'
      obtain ⟨_, cs, g2, g3⟩ := hg i hi
      obtain ⟨_, g4, g5⟩ := World.cells?_some g2
      refine ⟨cs, g3, fun j u hu => ?_⟩
      have hj : j < esz := by
        have := (List.getElem?_eq_some_iff.1 hu).1
        omega
      have := g5 j hj
      rw [add_eq hs, hu] at this
      exact this
  rw [hl] at key
  exact key
section
variable {H : Type} {enc : TypeId × Value → H} {W : World} {sp : Nat → Bool} {held : Bool}
theorem byte_open {n : Nat} {cs : List Value} {x : DataW H × List MemPlace} (h : DataW.trod enc Tryz.prog W 0 sp held n 5 cs = some x) : ∃ x : Int, cs = [.int .u8 x] ∧ 0 ≤ x ∧ x ≤ 255 := by
  cases n with
  | zero => simp [DataW.trod] at h
  | succ n =>
    simp only [DataW.trod, Tryz.underlying5] at h
    split at h <;> rename_i h0 <;> first | (cases h0; done) | (cases h; done) | skip
    cases h0
    split at h
    · rename_i hc
      obtain ⟨rfl, hw⟩ := hc
      simp only [Lit.wf, Bool.and_eq_true, decide_eq_true_eq] at hw
      exact ⟨_, rfl, hw.1, hw.2⟩
    · cases h
theorem int_open2 {n : Nat} {cs : List Value} {x : DataW H × List MemPlace} (h : DataW.trod enc Tryz.prog W 0 sp held n 3 cs = some x) : ∃ x : Int, cs = [.int .i64 x] := by
  cases n with
  | zero => simp [DataW.trod] at h
  | succ n =>
    simp only [DataW.trod, Tryz.underlying3] at h
    split at h <;> rename_i h0 <;> first | (cases h0; done) | (cases h; done) | skip
    cases h0
    split at h
    · rename_i hc
      obtain ⟨rfl, hw⟩ := hc
      exact ⟨_, rfl⟩
    · cases h
theorem trod_slice {n t e : Nat} {cs : List Value} {x : DataW H × List MemPlace} (hu : Tryz.prog.underlying t = some (.slice e)) (h : DataW.trod enc Tryz.prog W 0 sp held n t cs = some x) :
    cs = [.slice none 0 0] ∨ ∃ a len cap m, cs = [.slice (some a) len cap] ∧ len ≤ cap ∧ ∀ i, i < len → ∃ cs y, W.cells? 0 (a.add (i * Tryz.prog.cellsOf e)) (Tryz.prog.cellsOf e) = some cs ∧ DataW.trod enc Tryz.prog W 0 sp held m e cs = some y := by
  cases n with
  | zero => simp [DataW.trod] at h
  | succ n =>
    simp only [DataW.trod, hu] at h
    split at h <;> rename_i h0 <;> first | (cases h0; done) | (cases h; done) | skip
    · exact .inl rfl
    · cases h0
      split at h
      · rename_i hc
        obtain ⟨elems, he, h2⟩ := Option.bind_eq_some_iff.1 h
        refine .inr ⟨_, _, _, n, rfl, hc.2.1, fun i hi => ?_⟩
        have hz := mapM_some_length he
        have hg := mapM_some_get he i i (by simp [hi])
        rw [List.getElem?_eq_getElem (by rw [hz, List.length_range]; exact hi)] at hg
        obtain ⟨cs, h3, h4⟩ := Option.bind_eq_some_iff.1 hg
        exact ⟨cs, _, h3, h4⟩
      · cases h
theorem bytes_open {n : Nat} {cs : List Value} {x : DataW H × List MemPlace} (h : DataW.trod enc Tryz.prog W 0 sp held n 28 cs = some x) : ∃ bs : List UInt8, ∃ v, cs = [v] ∧ VR (Ctx.top W) (.view (byteRows bs)) v := by
  have e5 : Tryz.prog.cellsOf 5 = 1 := by kernel_rfl
  rcases trod_slice Tryz.underlying28 h with rfl | ⟨a, len, cap, m, rfl, hlc, hel⟩
  · exact ⟨[], _, rfl, empty_view (.empty none)⟩
  · have key : ∀ i, ∃ b : UInt8, i < len → W.cells? 0 (a.add (i * 1)) 1 = some [.int .u8 b.toNat] := by
      intro i
      by_cases hi : i < len
      · obtain ⟨cs, y, h1, h2⟩ := hel i hi
        obtain ⟨z, rfl, hz0, hz1⟩ := byte_open h2
        rw [e5] at h1
        refine ⟨UInt8.ofNat z.toNat, fun _ => ?_⟩
        rw [h1]
        have : ((UInt8.ofNat z.toNat).toNat : Int) = z := by
          rw [UInt8.toNat_ofNat']
          omega
        rw [this]
      · exact ⟨0, fun h => absurd h hi⟩
    obtain ⟨f, hf⟩ := Classical.axiomOfChoice key
    refine ⟨(List.range len).map f, _, rfl, ?_⟩
    have e : byteRows ((List.range len).map f) = (List.range len).map fun i => [AV.int .u8 (f i).toNat] := by simp [byteRows]
    rw [e]
    exact view_open hlc (by decide) _ fun i hi => ⟨rfl, _, hf i hi, .cons (.int _ _) (.nil _)⟩
theorem ints_open {n : Nat} {cs : List Value} {x : DataW H × List MemPlace} (h : DataW.trod enc Tryz.prog W 0 sp held n 72 cs = some x) : ∃ bs : List Int, ∃ v, cs = [v] ∧ VR (Ctx.top W) (.view (intRows bs)) v := by
  have e3 : Tryz.prog.cellsOf 3 = 1 := by kernel_rfl
  rcases trod_slice Tryz.underlying72 h with rfl | ⟨a, len, cap, m, rfl, hlc, hel⟩
  · exact ⟨[], _, rfl, empty_view (.empty none)⟩
  · have key : ∀ i, ∃ b : Int, i < len → W.cells? 0 (a.add (i * 1)) 1 = some [.int .i64 b] := by
      intro i
      by_cases hi : i < len
      · obtain ⟨cs, y, h1, h2⟩ := hel i hi
        obtain ⟨z, rfl⟩ := int_open2 h2
        rw [e3] at h1
        exact ⟨z, fun _ => h1⟩
      · exact ⟨0, fun h => absurd h hi⟩
    obtain ⟨f, hf⟩ := Classical.axiomOfChoice key
    refine ⟨(List.range len).map f, _, rfl, ?_⟩
    have e : intRows ((List.range len).map f) = (List.range len).map fun i => [AV.int .i64 (f i)] := by simp [intRows]
    rw [e]
    exact view_open hlc (by decide) _ fun i hi => ⟨rfl, _, hf i hi, .cons (.int _ _) (.nil _)⟩
theorem bool_open {n : Nat} {cs : List Value} {x : DataW H × List MemPlace} (h : DataW.trod enc Tryz.prog W 0 sp held n 4 cs = some x) : ∃ b : Bool, cs = [.bool b] := by
  cases n with
  | zero => simp [DataW.trod] at h
  | succ n =>
    simp only [DataW.trod, Tryz.underlying4] at h
    split at h <;> rename_i h0 <;> first | (cases h0; done) | (cases h; done) | skip
    cases h0
    exact ⟨_, rfl⟩
theorem frame_open {n : Nat} {cs : List Value} {x : DataW H × List MemPlace} (h : DataW.trod enc Tryz.prog W 0 sp held n 74 cs = some x) : ∃ u : Fr, VRs (Ctx.top W) u.cells cs := by
  have e37 : Tryz.prog.cellsOf 74 = 6 := by kernel_rfl
  have e5 : Tryz.prog.cellsOf 5 = 1 := by kernel_rfl
  have e3 : Tryz.prog.cellsOf 3 = 1 := by kernel_rfl
  have e4 : Tryz.prog.cellsOf 4 = 1 := by kernel_rfl
  have e34 : Tryz.prog.cellsOf 28 = 1 := by kernel_rfl
  have e35 : Tryz.prog.cellsOf 72 = 1 := by kernel_rfl
  cases n with
  | zero => simp [DataW.trod] at h
  | succ n =>
    simp only [DataW.trod, Tryz.underlying74] at h
    split at h <;> rename_i h0 <;> first | (cases h0; done) | (cases h; done) | skip
    rw [e37] at h0
    obtain ⟨xs, hm, _⟩ := Option.map_eq_some_iff.1 h
    have hz := mapM_some_length hm
    have g0 := mapM_some_get hm 0 _ rfl
    have g1 := mapM_some_get hm 1 _ rfl
    have g2 := mapM_some_get hm 2 _ rfl
    have g3 := mapM_some_get hm 3 _ rfl
    have g4 := mapM_some_get hm 4 _ rfl
    have g5 := mapM_some_get hm 5 _ rfl
    match cs, h0 with
    | [c0, c1, c2, c3, c4, c5], _ =>
      rw [List.getElem?_eq_getElem (by rw [hz]; decide)] at g0 g1 g2 g3 g4 g5
      simp only [e5] at g0
      simp only [e3] at g1
      simp only [e34] at g2
      simp only [e35] at g3
      simp only [e4] at g4 g5
      obtain ⟨k, hk, _⟩ := byte_open g0
      obtain ⟨p, hp⟩ := int_open2 g1
      obtain ⟨bs, v, hv, hr⟩ := bytes_open g2
      obtain ⟨ns, w, hw, hrw⟩ := ints_open g3
      obtain ⟨rf, hrf⟩ := bool_open g4
      obtain ⟨dt, hdt⟩ := bool_open g5
      cases hk; cases hp; cases hv; cases hw; cases hrf; cases hdt
      exact ⟨⟨k, p, bs, ns, rf, dt⟩, .cons (.int _ _) (.cons (.int _ _) (.cons hr (.cons hrw (.cons (.bool _) (.cons (.bool _) (.nil _))))))⟩
theorem frameL_open {n : Nat} {cs : List Value} {x : DataW H × List MemPlace} (h : DataW.trod enc Tryz.prog W 0 sp held n 24 cs = some x) : ∃ l : List Fr, ∃ v, cs = [v] ∧ VR (Ctx.top W) (.view (frRows l)) v := by
  have e37 : Tryz.prog.cellsOf 74 = 6 := by kernel_rfl
  rcases trod_slice Tryz.underlying24 h with rfl | ⟨a, len, cap, m, rfl, hlc, hel⟩
  · exact ⟨[], _, rfl, empty_view (.empty none)⟩
  · have key : ∀ i, ∃ u : Fr, i < len → ∃ cs, W.cells? 0 (a.add (i * 6)) 6 = some cs ∧ VRs (Ctx.top W) u.cells cs := by
      intro i
      by_cases hi : i < len
      · obtain ⟨cs, y, h1, h2⟩ := hel i hi
        obtain ⟨u, hu⟩ := frame_open h2
        rw [e37] at h1
        exact ⟨u, fun _ => ⟨cs, h1, hu⟩⟩
      · exact ⟨⟨0, 0, [], [], false, false⟩, fun h => absurd h hi⟩
    obtain ⟨f, hf⟩ := Classical.axiomOfChoice key
    refine ⟨(List.range len).map f, _, rfl, ?_⟩
    have e : frRows ((List.range len).map f) = (List.range len).map fun i => (f i).cells := by simp [frRows]
    rw [e]
    exact view_open hlc (by decide) _ fun i hi => ⟨rfl, hf i hi⟩
theorem frames_open {n : Nat} {cs : List Value} {x : DataW H × List MemPlace} (h : DataW.trod enc Tryz.prog W 0 sp held n 26 cs = some x) : ∃ f : Fs, VRs (Ctx.top W) f.cells cs := by
  have e26 : Tryz.prog.cellsOf 26 = 2 := by kernel_rfl
  have e24 : Tryz.prog.cellsOf 24 = 1 := by kernel_rfl
  have e3 : Tryz.prog.cellsOf 3 = 1 := by kernel_rfl
  cases n with
  | zero => simp [DataW.trod] at h
  | succ n =>
    simp only [DataW.trod, Tryz.underlying26] at h
    split at h <;> rename_i h0 <;> first | (cases h0; done) | (cases h; done) | skip
    rw [e26] at h0
    obtain ⟨xs, hm, _⟩ := Option.map_eq_some_iff.1 h
    have hz := mapM_some_length hm
    have g0 := mapM_some_get hm 0 _ rfl
    have g1 := mapM_some_get hm 1 _ rfl
    match cs, h0 with
    | [c0, c1], _ =>
      rw [List.getElem?_eq_getElem (by rw [hz]; decide)] at g0 g1
      simp only [e24] at g0
      simp only [e3] at g1
      obtain ⟨l, v, hv, hr⟩ := frameL_open g0
      obtain ⟨p, hp⟩ := int_open2 g1
      cases hv; cases hp
      exact ⟨⟨l, p⟩, .cons hr (.cons (.int _ _) (.nil _))⟩
set_option maxRecDepth 100000 in
theorem frames_arg {w : World} {r : Reach} {base : Nat} {v : Value} {d : DataW H} {p : List MemPlace} (hv : Value.okWide Tryz.prog w r base 26 v) (ht : DataW.Trod enc Tryz.prog W 0 sp held 26 v d p) : ∃ f : Fs, VR (Ctx.top W) (.agg f.cells) v := by
  simp only [Value.okWide, Tryz.underlying26] at hv
  obtain ⟨cs, rfl, hz, _⟩ := hv
  obtain ⟨n, hn⟩ := ht
  obtain ⟨f, hf⟩ := frames_open hn
  exact ⟨f, VR.agg_.2 hf⟩
end
end Go.Proofs.YtlmighkbeacjnaaGreatDoor

