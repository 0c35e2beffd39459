/- The widths, and equality of levels. -/
import Derived.Test.YtlmighkbeacjnaaC8
open Go Go.Lg
set_option linter.unusedSimpArgs false
set_option maxHeartbeats 2000000
namespace Go.Proofs.Ytlmighkbeacjnaa
def mx (a b : Int) : Int := if b > a then b else a
def intRows (l : List Int) : List (List AV) := l.map fun x => [.int .i64 x]
theorem intRows_pur (l : List Int) : Pur (.view (intRows l)) := by
  refine .view fun r hr x hx => ?_
  simp only [intRows, List.mem_map] at hr
  obtain ⟨y, _, rfl⟩ := hr
  rcases List.mem_singleton.1 hx with rfl; exact .int _ _
theorem intRows_len (l : List Int) : (intRows l).length = l.length := by simp [intRows]
theorem foldl_take {α β : Type} (f : β → α → β) (l : List α) (i : Nat) (x : α) (h : l[i]? = some x) (b : β) : (l.take (i + 1)).foldl f b = f ((l.take i).foldl f b) x := by
  rw [List.take_add_one, h, List.foldl_append]; rfl
end Go.Proofs.Ytlmighkbeacjnaa
