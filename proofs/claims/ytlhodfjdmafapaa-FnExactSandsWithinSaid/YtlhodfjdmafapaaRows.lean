/-
  No cell of these rows narrows 'for every input' (looked for: loops, veiled, ifaces, maps, wideKeys, modest, calm, conditions, laid).
  DERIVED. THE GIVEN ROWS OF THIS SEAT. 11 by the template 'for every input the law returns true; each argument reads behind the call as it read before'; 0 by the template 'total and deterministic' (their statements: YtlhodfjdmafapaaTotals.lean).
  GIVEN WITH THE SEED: the statements are not yours to turn. If you find one false, say at which input.
  Laid BY PROGRAM, IN A SANDBOX (cutbox-rows.mjs): the forced cells as the released guide's own fill.sh prints them over the translation 32e104517866c87b… (all of the seat's roots in one cut). By AI agents, Wed Nov 11 2026. No macro, syntax, notation, axiom, sorry.
-/
import Derived.Test.YtlhodfjdmafapaaChecked
import GoSem.Claim
import GoSem.ClaimJoined
import GoSem.ClaimMapViews
import Derived.JoinedTies
import Derived.KernelRfl
namespace Go.Proofs.Ytlhodfjdmafapaa
/- THE CELL 'sum', in the pinned program and in every row, IS THE sha256 OF THE DUMP (.gsa) THAT YtlhodfjdmafapaaProg.lean LOADS. Nothing in Lean hashes anything: it is a label: what it is worth is what the hold of that sum in a sandbox is worth. -/
noncomputable def Try.pinned : Pinned := { name := "ytlhodfjdmafapaa", sum := "32e104517866c87b9bb6614ac04f4dece66561ec4440a0fa706a96e682edb158", checked := Try.checked }
namespace Rows
def none {H : Type} : Left H := { results := [], args := [] }

/-- 'laws.FnExactCountMet': WHATEVER THE INPUT: true; the input reads as it did. -/
def fnExactCountMetSpec : ChangeSpec := { name := "fnExactCountMet", fn := fun _ => fun
  | [d] => { results := [.lit (.bool true)], args := [d] }
  | _ => none }
def fnExactCountMetRow : OpenClaim := { program := "ytlhodfjdmafapaa", sum := "32e104517866c87b9bb6614ac04f4dece66561ec4440a0fa706a96e682edb158", func := "loop.example/g01187/laws.FnExactCountMet", spec := "fnExactCountMet", plainKeys := false, apart := false }
def FnExactCountMetSaid : Prop := fnExactCountMetRow.holds Try.pinned (OpenSpec.ofChange fnExactCountMetSpec)

/-- ITS FALSE NEIGHBOUR: 'it returns false'. Refute it at one input. -/
def fnExactCountMetWrong : ChangeSpec := { name := "fnExactCountMet", fn := fun _ => fun
  | [d] => { results := [.lit (.bool false)], args := [d] }
  | _ => none }
def FnExactCountMetWrongFalsely : Prop := fnExactCountMetRow.holds Try.pinned (OpenSpec.ofChange fnExactCountMetWrong)

/-- 'laws.FnExactEarliestSand': WHATEVER THE INPUT: true; the input reads as it did. -/
def fnExactEarliestSandSpec : ChangeSpec := { name := "fnExactEarliestSand", fn := fun _ => fun
  | [d1, d2] => { results := [.lit (.bool true)], args := [d1, d2] }
  | _ => none }
def fnExactEarliestSandRow : OpenClaim := { program := "ytlhodfjdmafapaa", sum := "32e104517866c87b9bb6614ac04f4dece66561ec4440a0fa706a96e682edb158", func := "loop.example/g01187/laws.FnExactEarliestSand", spec := "fnExactEarliestSand", plainKeys := false, apart := false }
def FnExactEarliestSandSaid : Prop := fnExactEarliestSandRow.holds Try.pinned (OpenSpec.ofChange fnExactEarliestSandSpec)

/-- ITS FALSE NEIGHBOUR: 'it returns false'. Refute it at one input. -/
def fnExactEarliestSandWrong : ChangeSpec := { name := "fnExactEarliestSand", fn := fun _ => fun
  | [d1, d2] => { results := [.lit (.bool false)], args := [d1, d2] }
  | _ => none }
def FnExactEarliestSandWrongFalsely : Prop := fnExactEarliestSandRow.holds Try.pinned (OpenSpec.ofChange fnExactEarliestSandWrong)

/-- 'laws.FnExactMeasuredFrom': WHATEVER THE INPUT: true; the input reads as it did. -/
def fnExactMeasuredFromSpec : ChangeSpec := { name := "fnExactMeasuredFrom", fn := fun _ => fun
  | [d1, d2, d3] => { results := [.lit (.bool true)], args := [d1, d2, d3] }
  | _ => none }
def fnExactMeasuredFromRow : OpenClaim := { program := "ytlhodfjdmafapaa", sum := "32e104517866c87b9bb6614ac04f4dece66561ec4440a0fa706a96e682edb158", func := "loop.example/g01187/laws.FnExactMeasuredFrom", spec := "fnExactMeasuredFrom", plainKeys := false, apart := false }
def FnExactMeasuredFromSaid : Prop := fnExactMeasuredFromRow.holds Try.pinned (OpenSpec.ofChange fnExactMeasuredFromSpec)

/-- ITS FALSE NEIGHBOUR: 'it returns false'. Refute it at one input. -/
def fnExactMeasuredFromWrong : ChangeSpec := { name := "fnExactMeasuredFrom", fn := fun _ => fun
  | [d1, d2, d3] => { results := [.lit (.bool false)], args := [d1, d2, d3] }
  | _ => none }
def FnExactMeasuredFromWrongFalsely : Prop := fnExactMeasuredFromRow.holds Try.pinned (OpenSpec.ofChange fnExactMeasuredFromWrong)

/-- 'laws.FnExactSpanEnd': WHATEVER THE INPUT: true; the input reads as it did. -/
def fnExactSpanEndSpec : ChangeSpec := { name := "fnExactSpanEnd", fn := fun _ => fun
  | [d1, d2] => { results := [.lit (.bool true)], args := [d1, d2] }
  | _ => none }
def fnExactSpanEndRow : OpenClaim := { program := "ytlhodfjdmafapaa", sum := "32e104517866c87b9bb6614ac04f4dece66561ec4440a0fa706a96e682edb158", func := "loop.example/g01187/laws.FnExactSpanEnd", spec := "fnExactSpanEnd", plainKeys := false, apart := false }
def FnExactSpanEndSaid : Prop := fnExactSpanEndRow.holds Try.pinned (OpenSpec.ofChange fnExactSpanEndSpec)

/-- ITS FALSE NEIGHBOUR: 'it returns false'. Refute it at one input. -/
def fnExactSpanEndWrong : ChangeSpec := { name := "fnExactSpanEnd", fn := fun _ => fun
  | [d1, d2] => { results := [.lit (.bool false)], args := [d1, d2] }
  | _ => none }
def FnExactSpanEndWrongFalsely : Prop := fnExactSpanEndRow.holds Try.pinned (OpenSpec.ofChange fnExactSpanEndWrong)

/-- 'laws.FnExactSpanWaits': WHATEVER THE INPUT: true; the input reads as it did. -/
def fnExactSpanWaitsSpec : ChangeSpec := { name := "fnExactSpanWaits", fn := fun _ => fun
  | [d1, d2] => { results := [.lit (.bool true)], args := [d1, d2] }
  | _ => none }
def fnExactSpanWaitsRow : OpenClaim := { program := "ytlhodfjdmafapaa", sum := "32e104517866c87b9bb6614ac04f4dece66561ec4440a0fa706a96e682edb158", func := "loop.example/g01187/laws.FnExactSpanWaits", spec := "fnExactSpanWaits", plainKeys := false, apart := false }
def FnExactSpanWaitsSaid : Prop := fnExactSpanWaitsRow.holds Try.pinned (OpenSpec.ofChange fnExactSpanWaitsSpec)

/-- ITS FALSE NEIGHBOUR: 'it returns false'. Refute it at one input. -/
def fnExactSpanWaitsWrong : ChangeSpec := { name := "fnExactSpanWaits", fn := fun _ => fun
  | [d1, d2] => { results := [.lit (.bool false)], args := [d1, d2] }
  | _ => none }
def FnExactSpanWaitsWrongFalsely : Prop := fnExactSpanWaitsRow.holds Try.pinned (OpenSpec.ofChange fnExactSpanWaitsWrong)

/-- 'laws.FnExactNeverMeasured': WHATEVER THE INPUT: true; the input reads as it did. -/
def fnExactNeverMeasuredSpec : ChangeSpec := { name := "fnExactNeverMeasured", fn := fun _ => fun
  | [d1, d2] => { results := [.lit (.bool true)], args := [d1, d2] }
  | _ => none }
def fnExactNeverMeasuredRow : OpenClaim := { program := "ytlhodfjdmafapaa", sum := "32e104517866c87b9bb6614ac04f4dece66561ec4440a0fa706a96e682edb158", func := "loop.example/g01187/laws.FnExactNeverMeasured", spec := "fnExactNeverMeasured", plainKeys := false, apart := false }
def FnExactNeverMeasuredSaid : Prop := fnExactNeverMeasuredRow.holds Try.pinned (OpenSpec.ofChange fnExactNeverMeasuredSpec)

/-- ITS FALSE NEIGHBOUR: 'it returns false'. Refute it at one input. -/
def fnExactNeverMeasuredWrong : ChangeSpec := { name := "fnExactNeverMeasured", fn := fun _ => fun
  | [d1, d2] => { results := [.lit (.bool false)], args := [d1, d2] }
  | _ => none }
def FnExactNeverMeasuredWrongFalsely : Prop := fnExactNeverMeasuredRow.holds Try.pinned (OpenSpec.ofChange fnExactNeverMeasuredWrong)

/-- 'laws.FnExactSandsWithin': WHATEVER THE INPUT: true; the input reads as it did. -/
def fnExactSandsWithinSpec : ChangeSpec := { name := "fnExactSandsWithin", fn := fun _ => fun
  | [d1, d2, d3] => { results := [.lit (.bool true)], args := [d1, d2, d3] }
  | _ => none }
def fnExactSandsWithinRow : OpenClaim := { program := "ytlhodfjdmafapaa", sum := "32e104517866c87b9bb6614ac04f4dece66561ec4440a0fa706a96e682edb158", func := "loop.example/g01187/laws.FnExactSandsWithin", spec := "fnExactSandsWithin", unfollowed := true, recurses := true, plainKeys := false, apart := false }
def FnExactSandsWithinSaid : Prop := fnExactSandsWithinRow.holds Try.pinned (OpenSpec.ofChange fnExactSandsWithinSpec)

/-- ITS FALSE NEIGHBOUR: 'it returns false'. Refute it at one input. -/
def fnExactSandsWithinWrong : ChangeSpec := { name := "fnExactSandsWithin", fn := fun _ => fun
  | [d1, d2, d3] => { results := [.lit (.bool false)], args := [d1, d2, d3] }
  | _ => none }
def FnExactSandsWithinWrongFalsely : Prop := fnExactSandsWithinRow.holds Try.pinned (OpenSpec.ofChange fnExactSandsWithinWrong)

/-- 'laws.FnExactCountToTell': WHATEVER THE INPUT: true; the input reads as it did. -/
def fnExactCountToTellSpec : ChangeSpec := { name := "fnExactCountToTell", fn := fun _ => fun
  | [d1, d2, d3, d4] => { results := [.lit (.bool true)], args := [d1, d2, d3, d4] }
  | _ => none }
def fnExactCountToTellRow : OpenClaim := { program := "ytlhodfjdmafapaa", sum := "32e104517866c87b9bb6614ac04f4dece66561ec4440a0fa706a96e682edb158", func := "loop.example/g01187/laws.FnExactCountToTell", spec := "fnExactCountToTell", plainKeys := false, apart := false }
def FnExactCountToTellSaid : Prop := fnExactCountToTellRow.holds Try.pinned (OpenSpec.ofChange fnExactCountToTellSpec)

/-- ITS FALSE NEIGHBOUR: 'it returns false'. Refute it at one input. -/
def fnExactCountToTellWrong : ChangeSpec := { name := "fnExactCountToTell", fn := fun _ => fun
  | [d1, d2, d3, d4] => { results := [.lit (.bool false)], args := [d1, d2, d3, d4] }
  | _ => none }
def FnExactCountToTellWrongFalsely : Prop := fnExactCountToTellRow.holds Try.pinned (OpenSpec.ofChange fnExactCountToTellWrong)

/-- 'laws.FnExactFewestTurns': WHATEVER THE INPUT: true; the input reads as it did. -/
def fnExactFewestTurnsSpec : ChangeSpec := { name := "fnExactFewestTurns", fn := fun _ => fun
  | [d1, d2, d3] => { results := [.lit (.bool true)], args := [d1, d2, d3] }
  | _ => none }
def fnExactFewestTurnsRow : OpenClaim := { program := "ytlhodfjdmafapaa", sum := "32e104517866c87b9bb6614ac04f4dece66561ec4440a0fa706a96e682edb158", func := "loop.example/g01187/laws.FnExactFewestTurns", spec := "fnExactFewestTurns", plainKeys := false, apart := false }
def FnExactFewestTurnsSaid : Prop := fnExactFewestTurnsRow.holds Try.pinned (OpenSpec.ofChange fnExactFewestTurnsSpec)

/-- ITS FALSE NEIGHBOUR: 'it returns false'. Refute it at one input. -/
def fnExactFewestTurnsWrong : ChangeSpec := { name := "fnExactFewestTurns", fn := fun _ => fun
  | [d1, d2, d3] => { results := [.lit (.bool false)], args := [d1, d2, d3] }
  | _ => none }
def FnExactFewestTurnsWrongFalsely : Prop := fnExactFewestTurnsRow.holds Try.pinned (OpenSpec.ofChange fnExactFewestTurnsWrong)

/-- 'laws.FnExactCanTell': WHATEVER THE INPUT: true; the input reads as it did. -/
def fnExactCanTellSpec : ChangeSpec := { name := "fnExactCanTell", fn := fun _ => fun
  | [d1, d2, d3] => { results := [.lit (.bool true)], args := [d1, d2, d3] }
  | _ => none }
def fnExactCanTellRow : OpenClaim := { program := "ytlhodfjdmafapaa", sum := "32e104517866c87b9bb6614ac04f4dece66561ec4440a0fa706a96e682edb158", func := "loop.example/g01187/laws.FnExactCanTell", spec := "fnExactCanTell", plainKeys := false, apart := false }
def FnExactCanTellSaid : Prop := fnExactCanTellRow.holds Try.pinned (OpenSpec.ofChange fnExactCanTellSpec)

/-- ITS FALSE NEIGHBOUR: 'it returns false'. Refute it at one input. -/
def fnExactCanTellWrong : ChangeSpec := { name := "fnExactCanTell", fn := fun _ => fun
  | [d1, d2, d3] => { results := [.lit (.bool false)], args := [d1, d2, d3] }
  | _ => none }
def FnExactCanTellWrongFalsely : Prop := fnExactCanTellRow.holds Try.pinned (OpenSpec.ofChange fnExactCanTellWrong)

/-- 'laws.FnExactFewestToTell': WHATEVER THE INPUT: true; the input reads as it did. -/
def fnExactFewestToTellSpec : ChangeSpec := { name := "fnExactFewestToTell", fn := fun _ => fun
  | [d1, d2, d3] => { results := [.lit (.bool true)], args := [d1, d2, d3] }
  | _ => none }
def fnExactFewestToTellRow : OpenClaim := { program := "ytlhodfjdmafapaa", sum := "32e104517866c87b9bb6614ac04f4dece66561ec4440a0fa706a96e682edb158", func := "loop.example/g01187/laws.FnExactFewestToTell", spec := "fnExactFewestToTell", plainKeys := false, apart := false }
def FnExactFewestToTellSaid : Prop := fnExactFewestToTellRow.holds Try.pinned (OpenSpec.ofChange fnExactFewestToTellSpec)

/-- ITS FALSE NEIGHBOUR: 'it returns false'. Refute it at one input. -/
def fnExactFewestToTellWrong : ChangeSpec := { name := "fnExactFewestToTell", fn := fun _ => fun
  | [d1, d2, d3] => { results := [.lit (.bool false)], args := [d1, d2, d3] }
  | _ => none }
def FnExactFewestToTellWrongFalsely : Prop := fnExactFewestToTellRow.holds Try.pinned (OpenSpec.ofChange fnExactFewestToTellWrong)

/- THE SECOND FORM. 'bulk': how many values and letters a reading holds, each counted each time it is reached (what is shared counts as often as it is met; a slice's spare places count too). A statement '..UptoSaid' is the law's where the arguments, and the package variables that the reading takes, are together of bulk at most 1048576: NARROWER than '..Said'. Prove '..Said' where nothing that the law and all that it calls make is longer than what came in: it says more and counts as full. Else prove '..UptoSaid'. A law counts once. -/
mutual
def uptoBulk {H : Type} : DataW H → Nat
  | .lit (.string bytes) => bytes.length + 1
  | .lit _ => 1
  | .nil => 1
  | .ptr d => uptoBulk d + 1
  | .slice elems spare => uptoBulkAll elems + uptoBulkAll spare + 1
  | .agg parts => uptoBulkAll parts + 1
  | .iface _ d => uptoBulk d + 1
  | .map entries => uptoBulkEntries entries + 1
  | .held _ => 1
def uptoBulkAll {H : Type} : List (DataW H) → Nat
  | [] => 0
  | d :: r => uptoBulk d + uptoBulkAll r
def uptoBulkEntries {H : Type} : List (Lit × DataW H) → Nat
  | [] => 0
  | x :: r => uptoBulkEntry x + uptoBulkEntries r
def uptoBulkEntry {H : Type} : Lit × DataW H → Nat
  | (.string bytes, d) => bytes.length + uptoBulk d + 1
  | (_, d) => uptoBulk d + 1
 end
def uptoSmall : (H : Type) → List (DataW H) → Bool := fun _ ds => decide (uptoBulkAll ds ≤ 1048576)
def OpenSpec.upto (s : _root_.Go.ChangeSpec) : _root_.Go.OpenSpec := { _root_.Go.OpenSpec.ofChange s with cond := some uptoSmall }

/-- 'laws.FnExactCountMet', WHERE WHAT IT READS IS OF BULK AT MOST 1048576: true; the input reads as it did. -/
def fnExactCountMetUptoRow : OpenClaim := { program := "ytlhodfjdmafapaa", sum := "32e104517866c87b9bb6614ac04f4dece66561ec4440a0fa706a96e682edb158", func := "loop.example/g01187/laws.FnExactCountMet", spec := "fnExactCountMet", plainKeys := false, apart := false, narrowed := true }
def FnExactCountMetUptoSaid : Prop := fnExactCountMetUptoRow.holds Try.pinned (OpenSpec.upto fnExactCountMetSpec)

/-- 'laws.FnExactEarliestSand', WHERE WHAT IT READS IS OF BULK AT MOST 1048576: true; the input reads as it did. -/
def fnExactEarliestSandUptoRow : OpenClaim := { program := "ytlhodfjdmafapaa", sum := "32e104517866c87b9bb6614ac04f4dece66561ec4440a0fa706a96e682edb158", func := "loop.example/g01187/laws.FnExactEarliestSand", spec := "fnExactEarliestSand", plainKeys := false, apart := false, narrowed := true }
def FnExactEarliestSandUptoSaid : Prop := fnExactEarliestSandUptoRow.holds Try.pinned (OpenSpec.upto fnExactEarliestSandSpec)

/-- 'laws.FnExactMeasuredFrom', WHERE WHAT IT READS IS OF BULK AT MOST 1048576: true; the input reads as it did. -/
def fnExactMeasuredFromUptoRow : OpenClaim := { program := "ytlhodfjdmafapaa", sum := "32e104517866c87b9bb6614ac04f4dece66561ec4440a0fa706a96e682edb158", func := "loop.example/g01187/laws.FnExactMeasuredFrom", spec := "fnExactMeasuredFrom", plainKeys := false, apart := false, narrowed := true }
def FnExactMeasuredFromUptoSaid : Prop := fnExactMeasuredFromUptoRow.holds Try.pinned (OpenSpec.upto fnExactMeasuredFromSpec)

/-- 'laws.FnExactSpanEnd', WHERE WHAT IT READS IS OF BULK AT MOST 1048576: true; the input reads as it did. -/
def fnExactSpanEndUptoRow : OpenClaim := { program := "ytlhodfjdmafapaa", sum := "32e104517866c87b9bb6614ac04f4dece66561ec4440a0fa706a96e682edb158", func := "loop.example/g01187/laws.FnExactSpanEnd", spec := "fnExactSpanEnd", plainKeys := false, apart := false, narrowed := true }
def FnExactSpanEndUptoSaid : Prop := fnExactSpanEndUptoRow.holds Try.pinned (OpenSpec.upto fnExactSpanEndSpec)

/-- 'laws.FnExactSpanWaits', WHERE WHAT IT READS IS OF BULK AT MOST 1048576: true; the input reads as it did. -/
def fnExactSpanWaitsUptoRow : OpenClaim := { program := "ytlhodfjdmafapaa", sum := "32e104517866c87b9bb6614ac04f4dece66561ec4440a0fa706a96e682edb158", func := "loop.example/g01187/laws.FnExactSpanWaits", spec := "fnExactSpanWaits", plainKeys := false, apart := false, narrowed := true }
def FnExactSpanWaitsUptoSaid : Prop := fnExactSpanWaitsUptoRow.holds Try.pinned (OpenSpec.upto fnExactSpanWaitsSpec)

/-- 'laws.FnExactNeverMeasured', WHERE WHAT IT READS IS OF BULK AT MOST 1048576: true; the input reads as it did. -/
def fnExactNeverMeasuredUptoRow : OpenClaim := { program := "ytlhodfjdmafapaa", sum := "32e104517866c87b9bb6614ac04f4dece66561ec4440a0fa706a96e682edb158", func := "loop.example/g01187/laws.FnExactNeverMeasured", spec := "fnExactNeverMeasured", plainKeys := false, apart := false, narrowed := true }
def FnExactNeverMeasuredUptoSaid : Prop := fnExactNeverMeasuredUptoRow.holds Try.pinned (OpenSpec.upto fnExactNeverMeasuredSpec)

/-- 'laws.FnExactSandsWithin', WHERE WHAT IT READS IS OF BULK AT MOST 1048576: true; the input reads as it did. -/
def fnExactSandsWithinUptoRow : OpenClaim := { program := "ytlhodfjdmafapaa", sum := "32e104517866c87b9bb6614ac04f4dece66561ec4440a0fa706a96e682edb158", func := "loop.example/g01187/laws.FnExactSandsWithin", spec := "fnExactSandsWithin", unfollowed := true, recurses := true, plainKeys := false, apart := false, narrowed := true }
def FnExactSandsWithinUptoSaid : Prop := fnExactSandsWithinUptoRow.holds Try.pinned (OpenSpec.upto fnExactSandsWithinSpec)

/-- 'laws.FnExactCountToTell', WHERE WHAT IT READS IS OF BULK AT MOST 1048576: true; the input reads as it did. -/
def fnExactCountToTellUptoRow : OpenClaim := { program := "ytlhodfjdmafapaa", sum := "32e104517866c87b9bb6614ac04f4dece66561ec4440a0fa706a96e682edb158", func := "loop.example/g01187/laws.FnExactCountToTell", spec := "fnExactCountToTell", plainKeys := false, apart := false, narrowed := true }
def FnExactCountToTellUptoSaid : Prop := fnExactCountToTellUptoRow.holds Try.pinned (OpenSpec.upto fnExactCountToTellSpec)

/-- 'laws.FnExactFewestTurns', WHERE WHAT IT READS IS OF BULK AT MOST 1048576: true; the input reads as it did. -/
def fnExactFewestTurnsUptoRow : OpenClaim := { program := "ytlhodfjdmafapaa", sum := "32e104517866c87b9bb6614ac04f4dece66561ec4440a0fa706a96e682edb158", func := "loop.example/g01187/laws.FnExactFewestTurns", spec := "fnExactFewestTurns", plainKeys := false, apart := false, narrowed := true }
def FnExactFewestTurnsUptoSaid : Prop := fnExactFewestTurnsUptoRow.holds Try.pinned (OpenSpec.upto fnExactFewestTurnsSpec)

/-- 'laws.FnExactCanTell', WHERE WHAT IT READS IS OF BULK AT MOST 1048576: true; the input reads as it did. -/
def fnExactCanTellUptoRow : OpenClaim := { program := "ytlhodfjdmafapaa", sum := "32e104517866c87b9bb6614ac04f4dece66561ec4440a0fa706a96e682edb158", func := "loop.example/g01187/laws.FnExactCanTell", spec := "fnExactCanTell", plainKeys := false, apart := false, narrowed := true }
def FnExactCanTellUptoSaid : Prop := fnExactCanTellUptoRow.holds Try.pinned (OpenSpec.upto fnExactCanTellSpec)

/-- 'laws.FnExactFewestToTell', WHERE WHAT IT READS IS OF BULK AT MOST 1048576: true; the input reads as it did. -/
def fnExactFewestToTellUptoRow : OpenClaim := { program := "ytlhodfjdmafapaa", sum := "32e104517866c87b9bb6614ac04f4dece66561ec4440a0fa706a96e682edb158", func := "loop.example/g01187/laws.FnExactFewestToTell", spec := "fnExactFewestToTell", plainKeys := false, apart := false, narrowed := true }
def FnExactFewestToTellUptoSaid : Prop := fnExactFewestToTellUptoRow.holds Try.pinned (OpenSpec.upto fnExactFewestToTellSpec)

end Rows
end Go.Proofs.Ytlhodfjdmafapaa
