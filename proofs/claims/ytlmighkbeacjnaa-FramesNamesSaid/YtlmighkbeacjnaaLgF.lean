/- The type table, out of the program's own. -/
import Derived.Test.YtlmighkbeacjnaaLgE
set_option linter.unusedVariables false
set_option linter.unusedSimpArgs false
set_option linter.unusedSectionVars false
namespace Go.Lg
open Go

def zeros : List Value → Option (List AV)
  | [] => some []
  | v :: r => match cval v, zeros r with
    | some x, some xs => some (x :: xs)
    | _, _ => none
theorem zeros_sound {K : Ctx} : ∀ {vs : List Value} {xs : List AV}, zeros vs = some xs → VRs K xs vs
  | [], xs, h => by cases h; exact VRs.nil K
  | v :: r, xs, h => by
    unfold zeros at h
    split at h
    · rename_i x xs' h1 h2
      cases h
      exact .cons (cval_sound h1) (zeros_sound h2)
    · cases h
def isAggV : Value → Bool
  | .agg _ => true
  | _ => false
def tyI (d : TypeDesc) (ti : TypeInfo) : Option TI :=
  match ti.zero with
  | some z => match zeros z.cells.toList with
    | some zs => if z.cells.size = ti.size then if (isAggD d == isAggV z) = true then some ⟨d, ti.size, ti.bytes, zs⟩ else none else none
    | none => none
  | none => none
def tyOf (P : Program) : TT := fun t => match P.underlying t, P.info? t with
  | some d, some ti => tyI d ti
  | _, _ => none
theorem tok (P : Program) : TOK P (tyOf P) where
  und := fun t i h => by
    unfold tyOf at h
    split at h
    · rename_i d ti h1 h2
      unfold tyI at h
      split at h
      · split at h
        · split at h
          · split at h
            · cases h; exact h1
            · cases h
          · cases h
        · cases h
      · cases h
    · cases h
  info := fun t i h => by
    unfold tyOf at h
    split at h
    · rename_i d ti h1 h2
      unfold tyI at h
      split at h
      · rename_i z hz
        split at h
        · rename_i zs hzs
          split at h
          · rename_i hsz
            split at h
            · rename_i hag
              cases h
              refine ⟨ti, z, h2, rfl, rfl, hz, hsz, fun ha => ?_, fun K => zeros_sound hzs⟩
              have ha : isAggD d = true := ha
              rw [ha] at hag
              cases z <;> first | rfl | (simp [isAggV] at hag)
            · cases h
          · cases h
        · cases h
      · cases h
    · cases h
  nagg := fun t i h ha => by
    unfold tyOf at h
    split at h
    · rename_i d ti h1 h2
      unfold tyI at h
      split at h
      · rename_i z hz
        split at h
        · rename_i zs hzs
          split at h
          · rename_i hsz
            split at h
            · rename_i hag
              cases h
              refine ⟨ti, z, h2, hz, ?_⟩
              have ha : isAggD d = false := ha
              rw [ha] at hag
              cases z <;> first | rfl | (simp [isAggV] at hag)
            · cases h
          · cases h
        · cases h
      · cases h
    · cases h
theorem tyOf_eq {P : Program} {t : TypeId} {d : TypeDesc} {ti : TypeInfo} {i : TI} (hu : P.underlying t = some d) (ht : P.types[t]? = some ti) (h : tyI d ti = some i) : tyOf P t = some i := by
  have h2 : P.info? t = some ti := by
    have hlt : t < P.types.size := (Array.getElem?_eq_some_iff.1 ht).1
    unfold Tables.info?; rw [if_pos hlt]; exact ht
  simp only [tyOf, hu, h2, h]
end Go.Lg
