/-
  No cell of these rows narrows 'for every input' (looked for: loops, veiled, ifaces, maps, wideKeys, modest, calm, conditions, laid).
  DERIVED. THE GIVEN ROWS OF THIS SEAT. 6 by the template 'for every input the law returns true; each argument reads behind the call as it read before'; 0 by the template 'total and deterministic' (their statements: YtlmighkbeacjnaaTotals.lean).
  GIVEN WITH THE SEED: the statements are not yours to turn. If you find one false, say at which input.
  Laid BY PROGRAM, IN A SANDBOX (cutbox-rows.mjs): the forced cells as the released guide's own fill.sh prints them over the translation 63a24d45df18ef77… (all of the seat's roots in one cut). By AI agents, Wed Nov 11 2026. No macro, syntax, notation, axiom, sorry.
-/
import Derived.Test.YtlmighkbeacjnaaChecked
import GoSem.Claim
import GoSem.ClaimJoined
import GoSem.ClaimMapViews
import Derived.JoinedTies
import Derived.KernelRfl
namespace Go.Proofs.Ytlmighkbeacjnaa
/- THE CELL 'sum', in the pinned program and in every row, IS THE sha256 OF THE DUMP (.gsa) THAT YtlmighkbeacjnaaProg.lean LOADS. Nothing in Lean hashes anything: it is a label: what it is worth is what the hold of that sum in a sandbox is worth. -/
noncomputable def Try.pinned : Pinned := { name := "ytlmighkbeacjnaa", sum := "63a24d45df18ef777a0415580eada4005756917c35bcf8631264bced1b0f7c19", checked := Try.checked }
namespace Rows
def none {H : Type} : Left H := { results := [], args := [] }

/-- 'thimbleriglaw25.FramesClock': WHATEVER THE INPUT: true; the input reads as it did. -/
def framesClockSpec : ChangeSpec := { name := "framesClock", fn := fun _ => fun
  | [d1, d2] => { results := [.lit (.bool true)], args := [d1, d2] }
  | _ => none }
def framesClockRow : OpenClaim := { program := "ytlmighkbeacjnaa", sum := "63a24d45df18ef777a0415580eada4005756917c35bcf8631264bced1b0f7c19", func := "thimblerig/thimbleriglaw25.FramesClock", spec := "framesClock", unfollowed := true, recurses := true, apart := false }
def FramesClockSaid : Prop := framesClockRow.holds Try.pinned (OpenSpec.ofChange framesClockSpec)

/-- ITS FALSE NEIGHBOUR: 'it returns false'. Refute it at one input. -/
def framesClockWrong : ChangeSpec := { name := "framesClock", fn := fun _ => fun
  | [d1, d2] => { results := [.lit (.bool false)], args := [d1, d2] }
  | _ => none }
def FramesClockWrongFalsely : Prop := framesClockRow.holds Try.pinned (OpenSpec.ofChange framesClockWrong)

/-- 'thimbleriglaw26.PoolServed': WHATEVER THE INPUT: true; the input reads as it did. -/
def poolServedSpec : ChangeSpec := { name := "poolServed", fn := fun _ => fun
  | [d1, d2, d3, d4] => { results := [.lit (.bool true)], args := [d1, d2, d3, d4] }
  | _ => none }
def poolServedRow : OpenClaim := { program := "ytlmighkbeacjnaa", sum := "63a24d45df18ef777a0415580eada4005756917c35bcf8631264bced1b0f7c19", func := "thimblerig/thimbleriglaw26.PoolServed", spec := "poolServed", unfollowed := true, recurses := true, apart := false }
def PoolServedSaid : Prop := poolServedRow.holds Try.pinned (OpenSpec.ofChange poolServedSpec)

/-- ITS FALSE NEIGHBOUR: 'it returns false'. Refute it at one input. -/
def poolServedWrong : ChangeSpec := { name := "poolServed", fn := fun _ => fun
  | [d1, d2, d3, d4] => { results := [.lit (.bool false)], args := [d1, d2, d3, d4] }
  | _ => none }
def PoolServedWrongFalsely : Prop := poolServedRow.holds Try.pinned (OpenSpec.ofChange poolServedWrong)

/-- 'thimbleriglaw25.FramesTurn': WHATEVER THE INPUT: true; the input reads as it did. -/
def framesTurnSpec : ChangeSpec := { name := "framesTurn", fn := fun _ => fun
  | [d1, d2, d3, d4, d5, d6] => { results := [.lit (.bool true)], args := [d1, d2, d3, d4, d5, d6] }
  | _ => none }
def framesTurnRow : OpenClaim := { program := "ytlmighkbeacjnaa", sum := "63a24d45df18ef777a0415580eada4005756917c35bcf8631264bced1b0f7c19", func := "thimblerig/thimbleriglaw25.FramesTurn", spec := "framesTurn", unfollowed := true, recurses := true, apart := false }
def FramesTurnSaid : Prop := framesTurnRow.holds Try.pinned (OpenSpec.ofChange framesTurnSpec)

/-- ITS FALSE NEIGHBOUR: 'it returns false'. Refute it at one input. -/
def framesTurnWrong : ChangeSpec := { name := "framesTurn", fn := fun _ => fun
  | [d1, d2, d3, d4, d5, d6] => { results := [.lit (.bool false)], args := [d1, d2, d3, d4, d5, d6] }
  | _ => none }
def FramesTurnWrongFalsely : Prop := framesTurnRow.holds Try.pinned (OpenSpec.ofChange framesTurnWrong)

/-- 'thimbleriglaw25.FramesTell': WHATEVER THE INPUT: true; the input reads as it did. -/
def framesTellSpec : ChangeSpec := { name := "framesTell", fn := fun _ => fun
  | [d1, d2, d3, d4] => { results := [.lit (.bool true)], args := [d1, d2, d3, d4] }
  | _ => none }
def framesTellRow : OpenClaim := { program := "ytlmighkbeacjnaa", sum := "63a24d45df18ef777a0415580eada4005756917c35bcf8631264bced1b0f7c19", func := "thimblerig/thimbleriglaw25.FramesTell", spec := "framesTell", unfollowed := true, recurses := true, apart := false }
def FramesTellSaid : Prop := framesTellRow.holds Try.pinned (OpenSpec.ofChange framesTellSpec)

/-- ITS FALSE NEIGHBOUR: 'it returns false'. Refute it at one input. -/
def framesTellWrong : ChangeSpec := { name := "framesTell", fn := fun _ => fun
  | [d1, d2, d3, d4] => { results := [.lit (.bool false)], args := [d1, d2, d3, d4] }
  | _ => none }
def FramesTellWrongFalsely : Prop := framesTellRow.holds Try.pinned (OpenSpec.ofChange framesTellWrong)

/-- 'thimbleriglaw25.FramesStay': WHATEVER THE INPUT: true; the input reads as it did. -/
def framesStaySpec : ChangeSpec := { name := "framesStay", fn := fun _ => fun
  | [d1, d2, d3, d4, d5, d6] => { results := [.lit (.bool true)], args := [d1, d2, d3, d4, d5, d6] }
  | _ => none }
def framesStayRow : OpenClaim := { program := "ytlmighkbeacjnaa", sum := "63a24d45df18ef777a0415580eada4005756917c35bcf8631264bced1b0f7c19", func := "thimblerig/thimbleriglaw25.FramesStay", spec := "framesStay", unfollowed := true, recurses := true, apart := false }
def FramesStaySaid : Prop := framesStayRow.holds Try.pinned (OpenSpec.ofChange framesStaySpec)

/-- ITS FALSE NEIGHBOUR: 'it returns false'. Refute it at one input. -/
def framesStayWrong : ChangeSpec := { name := "framesStay", fn := fun _ => fun
  | [d1, d2, d3, d4, d5, d6] => { results := [.lit (.bool false)], args := [d1, d2, d3, d4, d5, d6] }
  | _ => none }
def FramesStayWrongFalsely : Prop := framesStayRow.holds Try.pinned (OpenSpec.ofChange framesStayWrong)

/-- 'thimbleriglaw25.FramesNames': WHATEVER THE INPUT: true; the input reads as it did. -/
def framesNamesSpec : ChangeSpec := { name := "framesNames", fn := fun _ => fun
  | [] => { results := [.lit (.bool true)], args := [] }
  | _ => none }
def framesNamesRow : OpenClaim := { program := "ytlmighkbeacjnaa", sum := "63a24d45df18ef777a0415580eada4005756917c35bcf8631264bced1b0f7c19", func := "thimblerig/thimbleriglaw25.FramesNames", spec := "framesNames", unfollowed := true, recurses := true, apart := false }
def FramesNamesSaid : Prop := framesNamesRow.holds Try.pinned (OpenSpec.ofChange framesNamesSpec)

/-- ITS FALSE NEIGHBOUR: 'it returns false'. Refute it at one input. -/
def framesNamesWrong : ChangeSpec := { name := "framesNames", fn := fun _ => fun
  | [] => { results := [.lit (.bool false)], args := [] }
  | _ => none }
def FramesNamesWrongFalsely : Prop := framesNamesRow.holds Try.pinned (OpenSpec.ofChange framesNamesWrong)

/- THE SECOND FORM. 'bulk': how many values and letters a reading holds, each counted each time it is reached (what is shared counts as often as it is met; a slice's spare places count too). A statement '..UptoSaid' is the law's where the arguments, and the package variables that the reading takes, are together of bulk at most 1048576: NARROWER than '..Said'. Prove '..Said' where nothing that the law and all that it calls make is longer than what came in: it says more and counts as full. Else prove '..UptoSaid'. A law counts once. -/
mutual
def uptoBulk {H : Type} : DataW H → Nat
  | .lit (.string bytes) => bytes.length + 1
  | .lit _ => 1
  | .nil => 1
  | .ptr d => uptoBulk d + 1
  | .slice elems spare => uptoBulkAll elems + uptoBulkAll spare + 1
  | .agg parts => uptoBulkAll parts + 1
  | .iface _ d => uptoBulk d + 1
  | .map entries => uptoBulkEntries entries + 1
  | .held _ => 1
def uptoBulkAll {H : Type} : List (DataW H) → Nat
  | [] => 0
  | d :: r => uptoBulk d + uptoBulkAll r
def uptoBulkEntries {H : Type} : List (Lit × DataW H) → Nat
  | [] => 0
  | x :: r => uptoBulkEntry x + uptoBulkEntries r
def uptoBulkEntry {H : Type} : Lit × DataW H → Nat
  | (.string bytes, d) => bytes.length + uptoBulk d + 1
  | (_, d) => uptoBulk d + 1
 end
def uptoSmall : (H : Type) → List (DataW H) → Bool := fun _ ds => decide (uptoBulkAll ds ≤ 1048576)
def OpenSpec.upto (s : _root_.Go.ChangeSpec) : _root_.Go.OpenSpec := { _root_.Go.OpenSpec.ofChange s with cond := some uptoSmall }

/-- 'thimbleriglaw25.FramesClock', WHERE WHAT IT READS IS OF BULK AT MOST 1048576: true; the input reads as it did. -/
def framesClockUptoRow : OpenClaim := { program := "ytlmighkbeacjnaa", sum := "63a24d45df18ef777a0415580eada4005756917c35bcf8631264bced1b0f7c19", func := "thimblerig/thimbleriglaw25.FramesClock", spec := "framesClock", unfollowed := true, recurses := true, apart := false, narrowed := true }
def FramesClockUptoSaid : Prop := framesClockUptoRow.holds Try.pinned (OpenSpec.upto framesClockSpec)

/-- 'thimbleriglaw26.PoolServed', WHERE WHAT IT READS IS OF BULK AT MOST 1048576: true; the input reads as it did. -/
def poolServedUptoRow : OpenClaim := { program := "ytlmighkbeacjnaa", sum := "63a24d45df18ef777a0415580eada4005756917c35bcf8631264bced1b0f7c19", func := "thimblerig/thimbleriglaw26.PoolServed", spec := "poolServed", unfollowed := true, recurses := true, apart := false, narrowed := true }
def PoolServedUptoSaid : Prop := poolServedUptoRow.holds Try.pinned (OpenSpec.upto poolServedSpec)

/-- 'thimbleriglaw25.FramesTurn', WHERE WHAT IT READS IS OF BULK AT MOST 1048576: true; the input reads as it did. -/
def framesTurnUptoRow : OpenClaim := { program := "ytlmighkbeacjnaa", sum := "63a24d45df18ef777a0415580eada4005756917c35bcf8631264bced1b0f7c19", func := "thimblerig/thimbleriglaw25.FramesTurn", spec := "framesTurn", unfollowed := true, recurses := true, apart := false, narrowed := true }
def FramesTurnUptoSaid : Prop := framesTurnUptoRow.holds Try.pinned (OpenSpec.upto framesTurnSpec)

/-- 'thimbleriglaw25.FramesTell', WHERE WHAT IT READS IS OF BULK AT MOST 1048576: true; the input reads as it did. -/
def framesTellUptoRow : OpenClaim := { program := "ytlmighkbeacjnaa", sum := "63a24d45df18ef777a0415580eada4005756917c35bcf8631264bced1b0f7c19", func := "thimblerig/thimbleriglaw25.FramesTell", spec := "framesTell", unfollowed := true, recurses := true, apart := false, narrowed := true }
def FramesTellUptoSaid : Prop := framesTellUptoRow.holds Try.pinned (OpenSpec.upto framesTellSpec)

/-- 'thimbleriglaw25.FramesStay', WHERE WHAT IT READS IS OF BULK AT MOST 1048576: true; the input reads as it did. -/
def framesStayUptoRow : OpenClaim := { program := "ytlmighkbeacjnaa", sum := "63a24d45df18ef777a0415580eada4005756917c35bcf8631264bced1b0f7c19", func := "thimblerig/thimbleriglaw25.FramesStay", spec := "framesStay", unfollowed := true, recurses := true, apart := false, narrowed := true }
def FramesStayUptoSaid : Prop := framesStayUptoRow.holds Try.pinned (OpenSpec.upto framesStaySpec)

/-- 'thimbleriglaw25.FramesNames', WHERE WHAT IT READS IS OF BULK AT MOST 1048576: true; the input reads as it did. -/
def framesNamesUptoRow : OpenClaim := { program := "ytlmighkbeacjnaa", sum := "63a24d45df18ef777a0415580eada4005756917c35bcf8631264bced1b0f7c19", func := "thimblerig/thimbleriglaw25.FramesNames", spec := "framesNames", unfollowed := true, recurses := true, apart := false, narrowed := true }
def FramesNamesUptoSaid : Prop := framesNamesUptoRow.holds Try.pinned (OpenSpec.upto framesNamesSpec)

end Rows
end Go.Proofs.Ytlmighkbeacjnaa
