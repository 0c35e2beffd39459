/- Frames: what they read as; the clock. -/
import Derived.Test.YtlmighkbeacjnaaLm6
import Derived.Test.YtlmighkbeacjnaaE2
import Derived.Test.YtlmighkbeacjnaaC9
open Go Go.Lg
set_option linter.unusedSimpArgs false
set_option linter.unusedVariables false
namespace Go.Proofs.Ytlmighkbeacjnaa
structure Fr where
  k : Int
  p : Int
  d : List UInt8
  pins : List Int
  rf : Bool
  dt : Bool
deriving DecidableEq
def pinned (x : Fr) : Bool := x.pins.any fun n => decide (n > 0)
def skip (x : Fr) : Bool := decide (x.k = 1) || pinned x
def unref (x : Fr) : Fr := { x with rf := false }
/-- The place that the clock comes to. -/
def cat (h n i : Nat) : Nat := (h + i) % n
def visited (h n i j : Nat) : Bool := (List.range i).any fun a => cat h n a == j
/-- The frames behind so many steps that took none. -/
def swept (l : List Fr) (h i : Nat) : List Fr := l.mapIdx fun j x => if skip x = false ∧ visited h l.length i j = true then unref x else x
/-- So many steps took none. -/
structure Past (l : List Fr) (h i : Nat) : Prop where
  rf : ∀ (j : Nat) x, l[j]? = some x → skip x = false → visited h l.length i j = true → x.rf = true
  late : ∀ (a : Nat) x, a < i → l.length ≤ a → l[cat h l.length a]? = some x → skip x = true
theorem visited_succ (h n i j : Nat) : visited h n (i + 1) j = (visited h n i j || (cat h n i == j)) := by
  simp [visited, List.range_succ, List.any_append]
theorem visited_of {h n i j a : Nat} (ha : a < i) (e : cat h n a = j) : visited h n i j = true := by
  simp only [visited, List.any_eq_true, List.mem_range, beq_iff_eq]
  exact ⟨a, ha, e⟩
theorem visited_all {h n i j : Nat} (hj : j < n) (hi : n ≤ i) (hh : h < n) : visited h n i j = true := by
  by_cases e : h ≤ j
  · exact visited_of (a := j - h) (by omega) (by unfold cat; rw [show h + (j - h) = j by omega]; exact Nat.mod_eq_of_lt hj)
  · exact visited_of (a := n - h + j) (by omega) (by unfold cat; rw [show h + (n - h + j) = j + n by omega, Nat.add_mod_right]; exact Nat.mod_eq_of_lt hj)
theorem visited_late {h n i : Nat} (hh : h < n) (hv : visited h n i (cat h n i) = true) : n ≤ i := by
  simp only [visited, List.any_eq_true, List.mem_range, beq_iff_eq, cat] at hv
  obtain ⟨a, ha, e⟩ := hv
  rcases Nat.lt_or_ge i n with hi | hi
  · exfalso
    have : (h + i - (h + a)) % n = 0 := Nat.sub_mod_eq_zero_of_mod_eq e.symm
    rw [show h + i - (h + a) = i - a by omega, Nat.mod_eq_of_lt (by omega)] at this
    omega
  · exact hi
theorem visited_back {h n i : Nat} (hi : n ≤ i) (hn : 0 < n) : visited h n i (cat h n i) = true :=
  visited_of (a := i - n) (by omega) (by unfold cat; rw [show h + i = h + (i - n) + n by omega, Nat.add_mod_right])
theorem cat_lt {h n i : Nat} (hn : 0 < n) : cat h n i < n := Nat.mod_lt _ hn
theorem swept_len (l : List Fr) (h i : Nat) : (swept l h i).length = l.length := by simp [swept]
theorem swept_get {l : List Fr} {h i j : Nat} {x : Fr} (hx : l[j]? = some x) : (swept l h i)[j]? = some (if skip x = false ∧ visited h l.length i j = true then unref x else x) := by
  simp [swept, hx]
theorem visited_zero (h n j : Nat) : visited h n 0 j = false := rfl
theorem swept_zero (l : List Fr) (h : Nat) : swept l h 0 = l := by
  refine List.ext_getElem? fun j => ?_
  cases hx : l[j]? with
  | none => rw [List.getElem?_eq_none_iff] at hx ⊢; rw [swept_len]; exact hx
  | some x => rw [swept_get hx, visited_zero]; simp
theorem past_zero (l : List Fr) (h : Nat) : Past l h 0 := ⟨fun j x _ _ hv => (by rw [visited_zero] at hv; cases hv), fun a x ha => absurd ha (Nat.not_lt_zero _)⟩
theorem swept_skip {l : List Fr} {h i : Nat} {x : Fr} (hx : l[cat h l.length i]? = some x) (hs : skip x = true) : swept l h (i + 1) = swept l h i := by
  refine List.ext_getElem? fun j => ?_
  cases hy : l[j]? with
  | none => rw [List.getElem?_eq_none (by rw [swept_len]; exact List.getElem?_eq_none_iff.1 hy), List.getElem?_eq_none (by rw [swept_len]; exact List.getElem?_eq_none_iff.1 hy)]
  | some y =>
    rw [swept_get hy, swept_get hy, visited_succ]
    by_cases e : cat h l.length i = j
    · subst e; rw [hx] at hy; cases hy; simp [hs]
    · simp [e]
theorem swept_rf {l : List Fr} {h i : Nat} {x : Fr} (hx : l[cat h l.length i]? = some x) (hs : skip x = false) : swept l h (i + 1) = (swept l h i).set (cat h l.length i) (unref x) := by
  refine List.ext_getElem? fun j => ?_
  cases hy : l[j]? with
  | none => rw [List.getElem?_eq_none (by rw [swept_len]; exact List.getElem?_eq_none_iff.1 hy), List.getElem?_eq_none (by rw [List.length_set, swept_len]; exact List.getElem?_eq_none_iff.1 hy)]
  | some y =>
    rw [swept_get hy, visited_succ, List.getElem?_set]
    by_cases e : cat h l.length i = j
    · subst e; rw [hx] at hy; cases hy
      rw [if_pos rfl, if_pos (show _ < (swept l h i).length by rw [swept_len]; exact (List.getElem?_eq_some_iff.1 hx).1), if_pos ⟨hs, by simp⟩]
    · rw [if_neg e, swept_get hy]; simp [e]
theorem past_skip {l : List Fr} {h i : Nat} {x : Fr} (hp : Past l h i) (hx : l[cat h l.length i]? = some x) (hs : skip x = true) : Past l h (i + 1) := by
  refine ⟨fun j y hy hn hv => ?_, fun a y ha hl hy => ?_⟩
  · rw [visited_succ] at hv
    by_cases e : cat h l.length i = j
    · subst e; rw [hx] at hy; cases hy; rw [hs] at hn; cases hn
    · exact hp.rf j y hy hn (by simpa [e] using hv)
  · rcases Nat.lt_or_ge a i with h1 | h1
    · exact hp.late a y h1 hl hy
    · obtain rfl : a = i := by omega
      rw [hx] at hy; cases hy; exact hs
/-- What the clock sees at its place. -/
def seen (l : List Fr) (h i : Nat) (x : Fr) : Fr := if skip x = false ∧ visited h l.length i (cat h l.length i) = true then unref x else x
theorem past_rf {l : List Fr} {h i : Nat} {x : Fr} (hp : Past l h i) (hx : l[cat h l.length i]? = some x) (hs : skip x = false) (hr : (seen l h i x).rf = true) : Past l h (i + 1) := by
  have hv0 : ¬ (visited h l.length i (cat h l.length i) = true) := fun hv => by
    unfold seen at hr
    rw [if_pos ⟨hs, hv⟩] at hr; simp [unref] at hr
  have hrx : x.rf = true := by
    unfold seen at hr
    rwa [if_neg (fun h => hv0 h.2)] at hr
  refine ⟨fun j y hy hn hv => ?_, fun a y ha hl hy => ?_⟩
  · rw [visited_succ] at hv
    by_cases e : cat h l.length i = j
    · subst e; rw [hx] at hy; cases hy; exact hrx
    · exact hp.rf j y hy hn (by simpa [e] using hv)
  · rcases Nat.lt_or_ge a i with h1 | h1
    · exact hp.late a y h1 hl hy
    · obtain rfl : a = i := by omega
      exact absurd (visited_back hl (by have := (List.getElem?_eq_some_iff.1 hx).1; omega)) hv0
theorem seen_skip {l : List Fr} {h i : Nat} {x : Fr} (hs : skip x = true) : seen l h i x = x := by simp [seen, hs]
/-- None was taken by two rounds: there is none. -/
theorem past_end {l : List Fr} {h : Nat} (hh : h < l.length) (hp : Past l h (2 * l.length)) : ∀ x, x ∈ l → skip x = true := by
  intro x hx
  obtain ⟨j, hj, rfl⟩ := List.getElem_of_mem hx
  have hg : l[j]? = some l[j] := List.getElem?_eq_getElem hj
  by_cases e : h ≤ j
  · have ec : cat h l.length (j - h + l.length) = j := by unfold cat; rw [show h + (j - h + l.length) = j + l.length by omega, Nat.add_mod_right]; exact Nat.mod_eq_of_lt hj
    exact hp.late (j - h + l.length) _ (by omega) (by omega) (by rw [ec]; exact hg)
  · have ec : cat h l.length (l.length - h + j + l.length) = j := by
      unfold cat; rw [show h + (l.length - h + j + l.length) = j + l.length + l.length by omega, Nat.add_mod_right, Nat.add_mod_right]; exact Nat.mod_eq_of_lt hj
    exact hp.late (l.length - h + j + l.length) _ (by omega) (by omega) (by rw [ec]; exact hg)
/-- One is taken: it had no Ref, or all that may be taken had theirs. -/
theorem past_take {l : List Fr} {h i : Nat} {x : Fr} (hh : h < l.length) (hp : Past l h i) (hx : l[cat h l.length i]? = some x) (hs : skip x = false) (hr : (seen l h i x).rf = false) (hxr : x.rf = true) : ∀ y, y ∈ l → skip y = false → y.rf = true := by
  intro y hy hn
  obtain ⟨j, hj, rfl⟩ := List.getElem_of_mem hy
  have hv : visited h l.length i (cat h l.length i) = true := by
    cases hv : visited h l.length i (cat h l.length i) with
    | true => rfl
    | false => simp [seen, hv, hxr] at hr
  exact hp.rf j _ (List.getElem?_eq_getElem hj) hn (visited_all hj (visited_late hh hv) hh)
theorem int_row {l : List Int} {i : Nat} {x : Int} (h : l[i]? = some x) : (intRows l)[i]? = some [.int .i64 x] := by simp [intRows, h]
theorem intRows_row (l : List Int) : ∀ r, r ∈ intRows l → r.length = 1 := by
  intro r hr
  simp only [intRows, List.mem_map] at hr
  obtain ⟨y, _, rfl⟩ := hr; rfl
theorem byteRows_row (b : List UInt8) : ∀ r, r ∈ byteRows b → r.length = 1 := by
  intro r hr
  simp only [byteRows, List.mem_map] at hr
  obtain ⟨y, _, rfl⟩ := hr; rfl
def Fr.cells (x : Fr) : List AV := [.int .u8 x.k, .int .i64 x.p, .view (byteRows x.d), .view (intRows x.pins), .bool x.rf, .bool x.dt]
theorem fr_pur (x : Fr) : ∀ y, y ∈ x.cells → Pur y := by
  intro y hy
  simp only [Fr.cells, List.mem_cons, List.not_mem_nil, or_false] at hy
  rcases hy with rfl | rfl | rfl | rfl | rfl | rfl
  · exact .int _ _
  · exact .int _ _
  · exact byteRows_pur _
  · exact intRows_pur _
  · exact .bool _
  · exact .bool _
def frRows (l : List Fr) : List (List AV) := l.map Fr.cells
theorem frRows_len (l : List Fr) : (frRows l).length = l.length := by simp [frRows]
theorem frRows_row (l : List Fr) : ∀ r, r ∈ frRows l → r.length = 6 := by
  intro r hr
  simp only [frRows, List.mem_map] at hr
  obtain ⟨y, _, rfl⟩ := hr; rfl
theorem frRows_pur (l : List Fr) : Pur (.view (frRows l)) := by
  refine .view fun r hr => ?_
  simp only [frRows, List.mem_map] at hr
  obtain ⟨x, _, rfl⟩ := hr; exact fr_pur x
theorem fr_row {l : List Fr} {i : Nat} {x : Fr} (h : l[i]? = some x) : (frRows l)[i]? = some [.int .u8 x.k, .int .i64 x.p, .view (byteRows x.d), .view (intRows x.pins), .bool x.rf, .bool x.dt] := by
  simp [frRows, h, Fr.cells]
/-- Frames. -/
structure Fs where
  l : List Fr
  h : Int
def Fs.cells (f : Fs) : List AV := [.view (frRows f.l), .int .i64 f.h]
theorem fs_pur (f : Fs) : ∀ y, y ∈ f.cells → Pur y := by
  intro y hy
  simp only [Fs.cells, List.mem_cons, List.not_mem_nil, or_false] at hy
  rcases hy with rfl | rfl
  · exact frRows_pur _
  · exact .int _ _
end Go.Proofs.Ytlmighkbeacjnaa
