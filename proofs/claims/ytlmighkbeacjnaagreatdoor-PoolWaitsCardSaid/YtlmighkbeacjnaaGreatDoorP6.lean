/- pool.Do, the plain law: what a call's answer is. -/
import Derived.Test.YtlmighkbeacjnaaGreatDoorYi
open Go Go.Lg
set_option linter.unusedSimpArgs false
set_option linter.unusedVariables false
set_option maxHeartbeats 4000000
namespace Go.Proofs.YtlmighkbeacjnaaGreatDoor
theorem put_ok {c : Cf} {q m : List Un} (h : putE c q m = 0) : qok c (q ++ m) = true ∧ putU c q m = q ++ m := by
  unfold putE at h
  split at h
  · rename_i h1
    split at h
    · rename_i h2
      refine ⟨?_, if_pos ⟨h1, h2⟩⟩
      simp only [put1, qok, Bool.and_eq_true, decide_eq_true_eq, List.all_append, List.length_append] at h1 ⊢
      exact ⟨⟨h1.1.1.1, by omega⟩, h1.1.2, h1.2⟩
    · cases h
  · cases h
end Go.Proofs.YtlmighkbeacjnaaGreatDoor

