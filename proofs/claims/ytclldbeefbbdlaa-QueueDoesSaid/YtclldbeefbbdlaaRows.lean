/-
  No cell of these rows narrows 'for every input' (looked for: loops, veiled, ifaces, maps, wideKeys, modest, calm, conditions, laid).
  DERIVED. THE GIVEN ROWS OF THIS SEAT. 9 by the template 'for every input the law returns true; each argument reads behind the call as it read before'; 0 by the template 'total and deterministic' (their statements: YtclldbeefbbdlaaTotals.lean).
  GIVEN WITH THE SEED: the statements are not yours to turn. If you find one false, say at which input.
  Laid BY PROGRAM, IN A SANDBOX (cutbox-rows.mjs): the forced cells as the released guide's own fill.sh prints them over the translation 393a6bbbe9166ea3… (all of the seat's roots in one cut). By AI agents, Wed Nov 11 2026. No macro, syntax, notation, axiom, sorry.
-/
import Derived.Test.YtclldbeefbbdlaaChecked
import GoSem.Claim
import GoSem.ClaimJoined
import GoSem.ClaimMapViews
import Derived.JoinedTies
import Derived.KernelRfl
namespace Go.Proofs.Ytclldbeefbbdlaa
/- THE CELL 'sum', in the pinned program and in every row, IS THE sha256 OF THE DUMP (.gsa) THAT YtclldbeefbbdlaaProg.lean LOADS. Nothing in Lean hashes anything: it is a label: what it is worth is what the hold of that sum in a sandbox is worth. -/
noncomputable def Try.pinned : Pinned := { name := "ytclldbeefbbdlaa", sum := "393a6bbbe9166ea3655839b8f958d6334e9ad7166a5d21c67db4fbb35766bce5", checked := Try.checked }
namespace Rows
def none {H : Type} : Left H := { results := [], args := [] }

/-- 'thimbleriglaw08.ConfRoads': WHATEVER THE INPUT: true; the input reads as it did. -/
def confRoadsSpec : ChangeSpec := { name := "confRoads", fn := fun _ => fun
  | [d1, d2] => { results := [.lit (.bool true)], args := [d1, d2] }
  | _ => none }
def confRoadsRow : OpenClaim := { program := "ytclldbeefbbdlaa", sum := "393a6bbbe9166ea3655839b8f958d6334e9ad7166a5d21c67db4fbb35766bce5", func := "thimblerig/thimbleriglaw08.ConfRoads", spec := "confRoads", unfollowed := true, recurses := true, apart := false }
def ConfRoadsSaid : Prop := confRoadsRow.holds Try.pinned (OpenSpec.ofChange confRoadsSpec)

/-- ITS FALSE NEIGHBOUR: 'it returns false'. Refute it at one input. -/
def confRoadsWrong : ChangeSpec := { name := "confRoads", fn := fun _ => fun
  | [d1, d2] => { results := [.lit (.bool false)], args := [d1, d2] }
  | _ => none }
def ConfRoadsWrongFalsely : Prop := confRoadsRow.holds Try.pinned (OpenSpec.ofChange confRoadsWrong)

/-- 'thimbleriglaw08.ConfRoad': WHATEVER THE INPUT: true; the input reads as it did. -/
def confRoadSpec : ChangeSpec := { name := "confRoad", fn := fun _ => fun
  | [d1, d2, d3] => { results := [.lit (.bool true)], args := [d1, d2, d3] }
  | _ => none }
def confRoadRow : OpenClaim := { program := "ytclldbeefbbdlaa", sum := "393a6bbbe9166ea3655839b8f958d6334e9ad7166a5d21c67db4fbb35766bce5", func := "thimblerig/thimbleriglaw08.ConfRoad", spec := "confRoad", unfollowed := true, recurses := true, apart := false }
def ConfRoadSaid : Prop := confRoadRow.holds Try.pinned (OpenSpec.ofChange confRoadSpec)

/-- ITS FALSE NEIGHBOUR: 'it returns false'. Refute it at one input. -/
def confRoadWrong : ChangeSpec := { name := "confRoad", fn := fun _ => fun
  | [d1, d2, d3] => { results := [.lit (.bool false)], args := [d1, d2, d3] }
  | _ => none }
def ConfRoadWrongFalsely : Prop := confRoadRow.holds Try.pinned (OpenSpec.ofChange confRoadWrong)

/-- 'thimbleriglaw08.ConfFits': WHATEVER THE INPUT: true; the input reads as it did. -/
def confFitsSpec : ChangeSpec := { name := "confFits", fn := fun _ => fun
  | [d] => { results := [.lit (.bool true)], args := [d] }
  | _ => none }
def confFitsRow : OpenClaim := { program := "ytclldbeefbbdlaa", sum := "393a6bbbe9166ea3655839b8f958d6334e9ad7166a5d21c67db4fbb35766bce5", func := "thimblerig/thimbleriglaw08.ConfFits", spec := "confFits", unfollowed := true, recurses := true, apart := false }
def ConfFitsSaid : Prop := confFitsRow.holds Try.pinned (OpenSpec.ofChange confFitsSpec)

/-- ITS FALSE NEIGHBOUR: 'it returns false'. Refute it at one input. -/
def confFitsWrong : ChangeSpec := { name := "confFits", fn := fun _ => fun
  | [d] => { results := [.lit (.bool false)], args := [d] }
  | _ => none }
def ConfFitsWrongFalsely : Prop := confFitsRow.holds Try.pinned (OpenSpec.ofChange confFitsWrong)

/-- 'thimbleriglaw08.ConfTells': WHATEVER THE INPUT: true; the input reads as it did. -/
def confTellsSpec : ChangeSpec := { name := "confTells", fn := fun _ => fun
  | [d] => { results := [.lit (.bool true)], args := [d] }
  | _ => none }
def confTellsRow : OpenClaim := { program := "ytclldbeefbbdlaa", sum := "393a6bbbe9166ea3655839b8f958d6334e9ad7166a5d21c67db4fbb35766bce5", func := "thimblerig/thimbleriglaw08.ConfTells", spec := "confTells", unfollowed := true, recurses := true, apart := false }
def ConfTellsSaid : Prop := confTellsRow.holds Try.pinned (OpenSpec.ofChange confTellsSpec)

/-- ITS FALSE NEIGHBOUR: 'it returns false'. Refute it at one input. -/
def confTellsWrong : ChangeSpec := { name := "confTells", fn := fun _ => fun
  | [d] => { results := [.lit (.bool false)], args := [d] }
  | _ => none }
def ConfTellsWrongFalsely : Prop := confTellsRow.holds Try.pinned (OpenSpec.ofChange confTellsWrong)

/-- 'thimbleriglaw08.ConfNames': WHATEVER THE INPUT: true; the input reads as it did. -/
def confNamesSpec : ChangeSpec := { name := "confNames", fn := fun _ => fun
  | [] => { results := [.lit (.bool true)], args := [] }
  | _ => none }
def confNamesRow : OpenClaim := { program := "ytclldbeefbbdlaa", sum := "393a6bbbe9166ea3655839b8f958d6334e9ad7166a5d21c67db4fbb35766bce5", func := "thimblerig/thimbleriglaw08.ConfNames", spec := "confNames", unfollowed := true, recurses := true, apart := false }
def ConfNamesSaid : Prop := confNamesRow.holds Try.pinned (OpenSpec.ofChange confNamesSpec)

/-- ITS FALSE NEIGHBOUR: 'it returns false'. Refute it at one input. -/
def confNamesWrong : ChangeSpec := { name := "confNames", fn := fun _ => fun
  | [] => { results := [.lit (.bool false)], args := [] }
  | _ => none }
def ConfNamesWrongFalsely : Prop := confNamesRow.holds Try.pinned (OpenSpec.ofChange confNamesWrong)

/-- 'thimbleriglaw23.QueueNames': WHATEVER THE INPUT: true; the input reads as it did. -/
def queueNamesSpec : ChangeSpec := { name := "queueNames", fn := fun _ => fun
  | [] => { results := [.lit (.bool true)], args := [] }
  | _ => none }
def queueNamesRow : OpenClaim := { program := "ytclldbeefbbdlaa", sum := "393a6bbbe9166ea3655839b8f958d6334e9ad7166a5d21c67db4fbb35766bce5", func := "thimblerig/thimbleriglaw23.QueueNames", spec := "queueNames", unfollowed := true, recurses := true, apart := false }
def QueueNamesSaid : Prop := queueNamesRow.holds Try.pinned (OpenSpec.ofChange queueNamesSpec)

/-- ITS FALSE NEIGHBOUR: 'it returns false'. Refute it at one input. -/
def queueNamesWrong : ChangeSpec := { name := "queueNames", fn := fun _ => fun
  | [] => { results := [.lit (.bool false)], args := [] }
  | _ => none }
def QueueNamesWrongFalsely : Prop := queueNamesRow.holds Try.pinned (OpenSpec.ofChange queueNamesWrong)

/-- 'thimbleriglaw23.QueueOrder': WHATEVER THE INPUT: true; the input reads as it did. -/
def queueOrderSpec : ChangeSpec := { name := "queueOrder", fn := fun _ => fun
  | [d1, d2, d3] => { results := [.lit (.bool true)], args := [d1, d2, d3] }
  | _ => none }
def queueOrderRow : OpenClaim := { program := "ytclldbeefbbdlaa", sum := "393a6bbbe9166ea3655839b8f958d6334e9ad7166a5d21c67db4fbb35766bce5", func := "thimblerig/thimbleriglaw23.QueueOrder", spec := "queueOrder", unfollowed := true, recurses := true, apart := false }
def QueueOrderSaid : Prop := queueOrderRow.holds Try.pinned (OpenSpec.ofChange queueOrderSpec)

/-- ITS FALSE NEIGHBOUR: 'it returns false'. Refute it at one input. -/
def queueOrderWrong : ChangeSpec := { name := "queueOrder", fn := fun _ => fun
  | [d1, d2, d3] => { results := [.lit (.bool false)], args := [d1, d2, d3] }
  | _ => none }
def QueueOrderWrongFalsely : Prop := queueOrderRow.holds Try.pinned (OpenSpec.ofChange queueOrderWrong)

/-- 'thimbleriglaw23.QueueDoes': WHATEVER THE INPUT: true; the input reads as it did. -/
def queueDoesSpec : ChangeSpec := { name := "queueDoes", fn := fun _ => fun
  | [d1, d2, d3, d4] => { results := [.lit (.bool true)], args := [d1, d2, d3, d4] }
  | _ => none }
def queueDoesRow : OpenClaim := { program := "ytclldbeefbbdlaa", sum := "393a6bbbe9166ea3655839b8f958d6334e9ad7166a5d21c67db4fbb35766bce5", func := "thimblerig/thimbleriglaw23.QueueDoes", spec := "queueDoes", unfollowed := true, recurses := true, apart := false }
def QueueDoesSaid : Prop := queueDoesRow.holds Try.pinned (OpenSpec.ofChange queueDoesSpec)

/-- ITS FALSE NEIGHBOUR: 'it returns false'. Refute it at one input. -/
def queueDoesWrong : ChangeSpec := { name := "queueDoes", fn := fun _ => fun
  | [d1, d2, d3, d4] => { results := [.lit (.bool false)], args := [d1, d2, d3, d4] }
  | _ => none }
def QueueDoesWrongFalsely : Prop := queueDoesRow.holds Try.pinned (OpenSpec.ofChange queueDoesWrong)

/-- 'thimbleriglaw30.ModelNames': WHATEVER THE INPUT: true; the input reads as it did. -/
def modelNamesSpec : ChangeSpec := { name := "modelNames", fn := fun _ => fun
  | [] => { results := [.lit (.bool true)], args := [] }
  | _ => none }
def modelNamesRow : OpenClaim := { program := "ytclldbeefbbdlaa", sum := "393a6bbbe9166ea3655839b8f958d6334e9ad7166a5d21c67db4fbb35766bce5", func := "thimblerig/thimbleriglaw30.ModelNames", spec := "modelNames", unfollowed := true, recurses := true, apart := false }
def ModelNamesSaid : Prop := modelNamesRow.holds Try.pinned (OpenSpec.ofChange modelNamesSpec)

/-- ITS FALSE NEIGHBOUR: 'it returns false'. Refute it at one input. -/
def modelNamesWrong : ChangeSpec := { name := "modelNames", fn := fun _ => fun
  | [] => { results := [.lit (.bool false)], args := [] }
  | _ => none }
def ModelNamesWrongFalsely : Prop := modelNamesRow.holds Try.pinned (OpenSpec.ofChange modelNamesWrong)

/- THE SECOND FORM. 'bulk': how many values and letters a reading holds, each counted each time it is reached (what is shared counts as often as it is met; a slice's spare places count too). A statement '..UptoSaid' is the law's where the arguments, and the package variables that the reading takes, are together of bulk at most 1048576: NARROWER than '..Said'. Prove '..Said' where nothing that the law and all that it calls make is longer than what came in: it says more and counts as full. Else prove '..UptoSaid'. A law counts once. -/
mutual
def uptoBulk {H : Type} : DataW H → Nat
  | .lit (.string bytes) => bytes.length + 1
  | .lit _ => 1
  | .nil => 1
  | .ptr d => uptoBulk d + 1
  | .slice elems spare => uptoBulkAll elems + uptoBulkAll spare + 1
  | .agg parts => uptoBulkAll parts + 1
  | .iface _ d => uptoBulk d + 1
  | .map entries => uptoBulkEntries entries + 1
  | .held _ => 1
def uptoBulkAll {H : Type} : List (DataW H) → Nat
  | [] => 0
  | d :: r => uptoBulk d + uptoBulkAll r
def uptoBulkEntries {H : Type} : List (Lit × DataW H) → Nat
  | [] => 0
  | x :: r => uptoBulkEntry x + uptoBulkEntries r
def uptoBulkEntry {H : Type} : Lit × DataW H → Nat
  | (.string bytes, d) => bytes.length + uptoBulk d + 1
  | (_, d) => uptoBulk d + 1
 end
def uptoSmall : (H : Type) → List (DataW H) → Bool := fun _ ds => decide (uptoBulkAll ds ≤ 1048576)
def OpenSpec.upto (s : _root_.Go.ChangeSpec) : _root_.Go.OpenSpec := { _root_.Go.OpenSpec.ofChange s with cond := some uptoSmall }

/-- 'thimbleriglaw08.ConfRoads', WHERE WHAT IT READS IS OF BULK AT MOST 1048576: true; the input reads as it did. -/
def confRoadsUptoRow : OpenClaim := { program := "ytclldbeefbbdlaa", sum := "393a6bbbe9166ea3655839b8f958d6334e9ad7166a5d21c67db4fbb35766bce5", func := "thimblerig/thimbleriglaw08.ConfRoads", spec := "confRoads", unfollowed := true, recurses := true, apart := false, narrowed := true }
def ConfRoadsUptoSaid : Prop := confRoadsUptoRow.holds Try.pinned (OpenSpec.upto confRoadsSpec)

/-- 'thimbleriglaw08.ConfRoad', WHERE WHAT IT READS IS OF BULK AT MOST 1048576: true; the input reads as it did. -/
def confRoadUptoRow : OpenClaim := { program := "ytclldbeefbbdlaa", sum := "393a6bbbe9166ea3655839b8f958d6334e9ad7166a5d21c67db4fbb35766bce5", func := "thimblerig/thimbleriglaw08.ConfRoad", spec := "confRoad", unfollowed := true, recurses := true, apart := false, narrowed := true }
def ConfRoadUptoSaid : Prop := confRoadUptoRow.holds Try.pinned (OpenSpec.upto confRoadSpec)

/-- 'thimbleriglaw08.ConfFits', WHERE WHAT IT READS IS OF BULK AT MOST 1048576: true; the input reads as it did. -/
def confFitsUptoRow : OpenClaim := { program := "ytclldbeefbbdlaa", sum := "393a6bbbe9166ea3655839b8f958d6334e9ad7166a5d21c67db4fbb35766bce5", func := "thimblerig/thimbleriglaw08.ConfFits", spec := "confFits", unfollowed := true, recurses := true, apart := false, narrowed := true }
def ConfFitsUptoSaid : Prop := confFitsUptoRow.holds Try.pinned (OpenSpec.upto confFitsSpec)

/-- 'thimbleriglaw08.ConfTells', WHERE WHAT IT READS IS OF BULK AT MOST 1048576: true; the input reads as it did. -/
def confTellsUptoRow : OpenClaim := { program := "ytclldbeefbbdlaa", sum := "393a6bbbe9166ea3655839b8f958d6334e9ad7166a5d21c67db4fbb35766bce5", func := "thimblerig/thimbleriglaw08.ConfTells", spec := "confTells", unfollowed := true, recurses := true, apart := false, narrowed := true }
def ConfTellsUptoSaid : Prop := confTellsUptoRow.holds Try.pinned (OpenSpec.upto confTellsSpec)

/-- 'thimbleriglaw08.ConfNames', WHERE WHAT IT READS IS OF BULK AT MOST 1048576: true; the input reads as it did. -/
def confNamesUptoRow : OpenClaim := { program := "ytclldbeefbbdlaa", sum := "393a6bbbe9166ea3655839b8f958d6334e9ad7166a5d21c67db4fbb35766bce5", func := "thimblerig/thimbleriglaw08.ConfNames", spec := "confNames", unfollowed := true, recurses := true, apart := false, narrowed := true }
def ConfNamesUptoSaid : Prop := confNamesUptoRow.holds Try.pinned (OpenSpec.upto confNamesSpec)

/-- 'thimbleriglaw23.QueueNames', WHERE WHAT IT READS IS OF BULK AT MOST 1048576: true; the input reads as it did. -/
def queueNamesUptoRow : OpenClaim := { program := "ytclldbeefbbdlaa", sum := "393a6bbbe9166ea3655839b8f958d6334e9ad7166a5d21c67db4fbb35766bce5", func := "thimblerig/thimbleriglaw23.QueueNames", spec := "queueNames", unfollowed := true, recurses := true, apart := false, narrowed := true }
def QueueNamesUptoSaid : Prop := queueNamesUptoRow.holds Try.pinned (OpenSpec.upto queueNamesSpec)

/-- 'thimbleriglaw23.QueueOrder', WHERE WHAT IT READS IS OF BULK AT MOST 1048576: true; the input reads as it did. -/
def queueOrderUptoRow : OpenClaim := { program := "ytclldbeefbbdlaa", sum := "393a6bbbe9166ea3655839b8f958d6334e9ad7166a5d21c67db4fbb35766bce5", func := "thimblerig/thimbleriglaw23.QueueOrder", spec := "queueOrder", unfollowed := true, recurses := true, apart := false, narrowed := true }
def QueueOrderUptoSaid : Prop := queueOrderUptoRow.holds Try.pinned (OpenSpec.upto queueOrderSpec)

/-- 'thimbleriglaw23.QueueDoes', WHERE WHAT IT READS IS OF BULK AT MOST 1048576: true; the input reads as it did. -/
def queueDoesUptoRow : OpenClaim := { program := "ytclldbeefbbdlaa", sum := "393a6bbbe9166ea3655839b8f958d6334e9ad7166a5d21c67db4fbb35766bce5", func := "thimblerig/thimbleriglaw23.QueueDoes", spec := "queueDoes", unfollowed := true, recurses := true, apart := false, narrowed := true }
def QueueDoesUptoSaid : Prop := queueDoesUptoRow.holds Try.pinned (OpenSpec.upto queueDoesSpec)

/-- 'thimbleriglaw30.ModelNames', WHERE WHAT IT READS IS OF BULK AT MOST 1048576: true; the input reads as it did. -/
def modelNamesUptoRow : OpenClaim := { program := "ytclldbeefbbdlaa", sum := "393a6bbbe9166ea3655839b8f958d6334e9ad7166a5d21c67db4fbb35766bce5", func := "thimblerig/thimbleriglaw30.ModelNames", spec := "modelNames", unfollowed := true, recurses := true, apart := false, narrowed := true }
def ModelNamesUptoSaid : Prop := modelNamesUptoRow.holds Try.pinned (OpenSpec.upto modelNamesSpec)

end Rows
end Go.Proofs.Ytclldbeefbbdlaa
