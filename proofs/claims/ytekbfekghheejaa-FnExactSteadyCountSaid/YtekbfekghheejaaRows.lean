/-
  No cell of these rows narrows 'for every input' (looked for: loops, veiled, ifaces, maps, wideKeys, modest, calm, conditions, laid).
  DERIVED. THE GIVEN ROWS OF THIS SEAT. 7 by the template 'for every input the law returns true; each argument reads behind the call as it read before'; 0 by the template 'total and deterministic' (their statements: YtekbfekghheejaaTotals.lean).
  GIVEN WITH THE SEED: the statements are not yours to turn. If you find one false, say at which input.
  Laid BY PROGRAM, IN A SANDBOX (cutbox-rows.mjs): the forced cells as the released guide's own fill.sh prints them over the translation bfe780edc6539560… (all of the seat's roots in one cut). By AI agents, Wed Nov 11 2026. No macro, syntax, notation, axiom, sorry.
-/
import Derived.Test.YtekbfekghheejaaChecked
import GoSem.Claim
import GoSem.ClaimJoined
import GoSem.ClaimMapViews
import Derived.JoinedTies
import Derived.KernelRfl
namespace Go.Proofs.Ytekbfekghheejaa
/- THE CELL 'sum', in the pinned program and in every row, IS THE sha256 OF THE DUMP (.gsa) THAT YtekbfekghheejaaProg.lean LOADS. Nothing in Lean hashes anything: it is a label: what it is worth is what the hold of that sum in a sandbox is worth. -/
noncomputable def Try.pinned : Pinned := { name := "ytekbfekghheejaa", sum := "bfe780edc6539560950b73aa80e02b3f41659065d0c25e92d29820e0d995fe92", checked := Try.checked }
namespace Rows
def none {H : Type} : Left H := { results := [], args := [] }

/-- 'laws.FnExactSteadyTimes': WHATEVER THE INPUT: true; the input reads as it did. -/
def fnExactSteadyTimesSpec : ChangeSpec := { name := "fnExactSteadyTimes", fn := fun _ => fun
  | [d1, d2, d3] => { results := [.lit (.bool true)], args := [d1, d2, d3] }
  | _ => none }
def fnExactSteadyTimesRow : OpenClaim := { program := "ytekbfekghheejaa", sum := "bfe780edc6539560950b73aa80e02b3f41659065d0c25e92d29820e0d995fe92", func := "loop.example/g01187/laws.FnExactSteadyTimes", spec := "fnExactSteadyTimes", plainKeys := false, apart := false }
def FnExactSteadyTimesSaid : Prop := fnExactSteadyTimesRow.holds Try.pinned (OpenSpec.ofChange fnExactSteadyTimesSpec)

/-- ITS FALSE NEIGHBOUR: 'it returns false'. Refute it at one input. -/
def fnExactSteadyTimesWrong : ChangeSpec := { name := "fnExactSteadyTimes", fn := fun _ => fun
  | [d1, d2, d3] => { results := [.lit (.bool false)], args := [d1, d2, d3] }
  | _ => none }
def FnExactSteadyTimesWrongFalsely : Prop := fnExactSteadyTimesRow.holds Try.pinned (OpenSpec.ofChange fnExactSteadyTimesWrong)

/-- 'laws.FnExactSteadyCount': WHATEVER THE INPUT: true; the input reads as it did. -/
def fnExactSteadyCountSpec : ChangeSpec := { name := "fnExactSteadyCount", fn := fun _ => fun
  | [d1, d2] => { results := [.lit (.bool true)], args := [d1, d2] }
  | _ => none }
def fnExactSteadyCountRow : OpenClaim := { program := "ytekbfekghheejaa", sum := "bfe780edc6539560950b73aa80e02b3f41659065d0c25e92d29820e0d995fe92", func := "loop.example/g01187/laws.FnExactSteadyCount", spec := "fnExactSteadyCount", plainKeys := false, apart := false }
def FnExactSteadyCountSaid : Prop := fnExactSteadyCountRow.holds Try.pinned (OpenSpec.ofChange fnExactSteadyCountSpec)

/-- ITS FALSE NEIGHBOUR: 'it returns false'. Refute it at one input. -/
def fnExactSteadyCountWrong : ChangeSpec := { name := "fnExactSteadyCount", fn := fun _ => fun
  | [d1, d2] => { results := [.lit (.bool false)], args := [d1, d2] }
  | _ => none }
def FnExactSteadyCountWrongFalsely : Prop := fnExactSteadyCountRow.holds Try.pinned (OpenSpec.ofChange fnExactSteadyCountWrong)

/-- 'laws.FnExactSteadyCycle': WHATEVER THE INPUT: true; the input reads as it did. -/
def fnExactSteadyCycleSpec : ChangeSpec := { name := "fnExactSteadyCycle", fn := fun _ => fun
  | [d1, d2] => { results := [.lit (.bool true)], args := [d1, d2] }
  | _ => none }
def fnExactSteadyCycleRow : OpenClaim := { program := "ytekbfekghheejaa", sum := "bfe780edc6539560950b73aa80e02b3f41659065d0c25e92d29820e0d995fe92", func := "loop.example/g01187/laws.FnExactSteadyCycle", spec := "fnExactSteadyCycle", plainKeys := false, apart := false }
def FnExactSteadyCycleSaid : Prop := fnExactSteadyCycleRow.holds Try.pinned (OpenSpec.ofChange fnExactSteadyCycleSpec)

/-- ITS FALSE NEIGHBOUR: 'it returns false'. Refute it at one input. -/
def fnExactSteadyCycleWrong : ChangeSpec := { name := "fnExactSteadyCycle", fn := fun _ => fun
  | [d1, d2] => { results := [.lit (.bool false)], args := [d1, d2] }
  | _ => none }
def FnExactSteadyCycleWrongFalsely : Prop := fnExactSteadyCycleRow.holds Try.pinned (OpenSpec.ofChange fnExactSteadyCycleWrong)

/-- 'laws.FnExactMomentOf': WHATEVER THE INPUT: true; the input reads as it did. -/
def fnExactMomentOfSpec : ChangeSpec := { name := "fnExactMomentOf", fn := fun _ => fun
  | [d1, d2, d3, d4] => { results := [.lit (.bool true)], args := [d1, d2, d3, d4] }
  | _ => none }
def fnExactMomentOfRow : OpenClaim := { program := "ytekbfekghheejaa", sum := "bfe780edc6539560950b73aa80e02b3f41659065d0c25e92d29820e0d995fe92", func := "loop.example/g01187/laws.FnExactMomentOf", spec := "fnExactMomentOf", unfollowed := true, recurses := true, plainKeys := false, apart := false }
def FnExactMomentOfSaid : Prop := fnExactMomentOfRow.holds Try.pinned (OpenSpec.ofChange fnExactMomentOfSpec)

/-- ITS FALSE NEIGHBOUR: 'it returns false'. Refute it at one input. -/
def fnExactMomentOfWrong : ChangeSpec := { name := "fnExactMomentOf", fn := fun _ => fun
  | [d1, d2, d3, d4] => { results := [.lit (.bool false)], args := [d1, d2, d3, d4] }
  | _ => none }
def FnExactMomentOfWrongFalsely : Prop := fnExactMomentOfRow.holds Try.pinned (OpenSpec.ofChange fnExactMomentOfWrong)

/-- 'laws.FnExactRunRopes': WHATEVER THE INPUT: true; the input reads as it did. -/
def fnExactRunRopesSpec : ChangeSpec := { name := "fnExactRunRopes", fn := fun _ => fun
  | [d1, d2] => { results := [.lit (.bool true)], args := [d1, d2] }
  | _ => none }
def fnExactRunRopesRow : OpenClaim := { program := "ytekbfekghheejaa", sum := "bfe780edc6539560950b73aa80e02b3f41659065d0c25e92d29820e0d995fe92", func := "loop.example/g01187/laws.FnExactRunRopes", spec := "fnExactRunRopes", plainKeys := false, apart := false }
def FnExactRunRopesSaid : Prop := fnExactRunRopesRow.holds Try.pinned (OpenSpec.ofChange fnExactRunRopesSpec)

/-- ITS FALSE NEIGHBOUR: 'it returns false'. Refute it at one input. -/
def fnExactRunRopesWrong : ChangeSpec := { name := "fnExactRunRopes", fn := fun _ => fun
  | [d1, d2] => { results := [.lit (.bool false)], args := [d1, d2] }
  | _ => none }
def FnExactRunRopesWrongFalsely : Prop := fnExactRunRopesRow.holds Try.pinned (OpenSpec.ofChange fnExactRunRopesWrong)

/-- 'laws.FnExactSortKit': WHATEVER THE INPUT: true; the input reads as it did. -/
def fnExactSortKitSpec : ChangeSpec := { name := "fnExactSortKit", fn := fun _ => fun
  | [d] => { results := [.lit (.bool true)], args := [d] }
  | _ => none }
def fnExactSortKitRow : OpenClaim := { program := "ytekbfekghheejaa", sum := "bfe780edc6539560950b73aa80e02b3f41659065d0c25e92d29820e0d995fe92", func := "loop.example/g01187/laws.FnExactSortKit", spec := "fnExactSortKit", unfollowed := true, recurses := true, plainKeys := false, apart := false }
def FnExactSortKitSaid : Prop := fnExactSortKitRow.holds Try.pinned (OpenSpec.ofChange fnExactSortKitSpec)

/-- ITS FALSE NEIGHBOUR: 'it returns false'. Refute it at one input. -/
def fnExactSortKitWrong : ChangeSpec := { name := "fnExactSortKit", fn := fun _ => fun
  | [d] => { results := [.lit (.bool false)], args := [d] }
  | _ => none }
def FnExactSortKitWrongFalsely : Prop := fnExactSortKitRow.holds Try.pinned (OpenSpec.ofChange fnExactSortKitWrong)

/-- 'laws.FnExactCountRopePlans': WHATEVER THE INPUT: true; the input reads as it did. -/
def fnExactCountRopePlansSpec : ChangeSpec := { name := "fnExactCountRopePlans", fn := fun _ => fun
  | [d1, d2] => { results := [.lit (.bool true)], args := [d1, d2] }
  | _ => none }
def fnExactCountRopePlansRow : OpenClaim := { program := "ytekbfekghheejaa", sum := "bfe780edc6539560950b73aa80e02b3f41659065d0c25e92d29820e0d995fe92", func := "loop.example/g01187/laws.FnExactCountRopePlans", spec := "fnExactCountRopePlans", unfollowed := true, recurses := true, plainKeys := false, apart := false }
def FnExactCountRopePlansSaid : Prop := fnExactCountRopePlansRow.holds Try.pinned (OpenSpec.ofChange fnExactCountRopePlansSpec)

/-- ITS FALSE NEIGHBOUR: 'it returns false'. Refute it at one input. -/
def fnExactCountRopePlansWrong : ChangeSpec := { name := "fnExactCountRopePlans", fn := fun _ => fun
  | [d1, d2] => { results := [.lit (.bool false)], args := [d1, d2] }
  | _ => none }
def FnExactCountRopePlansWrongFalsely : Prop := fnExactCountRopePlansRow.holds Try.pinned (OpenSpec.ofChange fnExactCountRopePlansWrong)

/- THE SECOND FORM. 'bulk': how many values and letters a reading holds, each counted each time it is reached (what is shared counts as often as it is met; a slice's spare places count too). A statement '..UptoSaid' is the law's where the arguments, and the package variables that the reading takes, are together of bulk at most 1048576: NARROWER than '..Said'. Prove '..Said' where nothing that the law and all that it calls make is longer than what came in: it says more and counts as full. Else prove '..UptoSaid'. A law counts once. -/
mutual
def uptoBulk {H : Type} : DataW H → Nat
  | .lit (.string bytes) => bytes.length + 1
  | .lit _ => 1
  | .nil => 1
  | .ptr d => uptoBulk d + 1
  | .slice elems spare => uptoBulkAll elems + uptoBulkAll spare + 1
  | .agg parts => uptoBulkAll parts + 1
  | .iface _ d => uptoBulk d + 1
  | .map entries => uptoBulkEntries entries + 1
  | .held _ => 1
def uptoBulkAll {H : Type} : List (DataW H) → Nat
  | [] => 0
  | d :: r => uptoBulk d + uptoBulkAll r
def uptoBulkEntries {H : Type} : List (Lit × DataW H) → Nat
  | [] => 0
  | x :: r => uptoBulkEntry x + uptoBulkEntries r
def uptoBulkEntry {H : Type} : Lit × DataW H → Nat
  | (.string bytes, d) => bytes.length + uptoBulk d + 1
  | (_, d) => uptoBulk d + 1
 end
def uptoSmall : (H : Type) → List (DataW H) → Bool := fun _ ds => decide (uptoBulkAll ds ≤ 1048576)
def OpenSpec.upto (s : _root_.Go.ChangeSpec) : _root_.Go.OpenSpec := { _root_.Go.OpenSpec.ofChange s with cond := some uptoSmall }

/-- 'laws.FnExactSteadyTimes', WHERE WHAT IT READS IS OF BULK AT MOST 1048576: true; the input reads as it did. -/
def fnExactSteadyTimesUptoRow : OpenClaim := { program := "ytekbfekghheejaa", sum := "bfe780edc6539560950b73aa80e02b3f41659065d0c25e92d29820e0d995fe92", func := "loop.example/g01187/laws.FnExactSteadyTimes", spec := "fnExactSteadyTimes", plainKeys := false, apart := false, narrowed := true }
def FnExactSteadyTimesUptoSaid : Prop := fnExactSteadyTimesUptoRow.holds Try.pinned (OpenSpec.upto fnExactSteadyTimesSpec)

/-- 'laws.FnExactSteadyCount', WHERE WHAT IT READS IS OF BULK AT MOST 1048576: true; the input reads as it did. -/
def fnExactSteadyCountUptoRow : OpenClaim := { program := "ytekbfekghheejaa", sum := "bfe780edc6539560950b73aa80e02b3f41659065d0c25e92d29820e0d995fe92", func := "loop.example/g01187/laws.FnExactSteadyCount", spec := "fnExactSteadyCount", plainKeys := false, apart := false, narrowed := true }
def FnExactSteadyCountUptoSaid : Prop := fnExactSteadyCountUptoRow.holds Try.pinned (OpenSpec.upto fnExactSteadyCountSpec)

/-- 'laws.FnExactSteadyCycle', WHERE WHAT IT READS IS OF BULK AT MOST 1048576: true; the input reads as it did. -/
def fnExactSteadyCycleUptoRow : OpenClaim := { program := "ytekbfekghheejaa", sum := "bfe780edc6539560950b73aa80e02b3f41659065d0c25e92d29820e0d995fe92", func := "loop.example/g01187/laws.FnExactSteadyCycle", spec := "fnExactSteadyCycle", plainKeys := false, apart := false, narrowed := true }
def FnExactSteadyCycleUptoSaid : Prop := fnExactSteadyCycleUptoRow.holds Try.pinned (OpenSpec.upto fnExactSteadyCycleSpec)

/-- 'laws.FnExactMomentOf', WHERE WHAT IT READS IS OF BULK AT MOST 1048576: true; the input reads as it did. -/
def fnExactMomentOfUptoRow : OpenClaim := { program := "ytekbfekghheejaa", sum := "bfe780edc6539560950b73aa80e02b3f41659065d0c25e92d29820e0d995fe92", func := "loop.example/g01187/laws.FnExactMomentOf", spec := "fnExactMomentOf", unfollowed := true, recurses := true, plainKeys := false, apart := false, narrowed := true }
def FnExactMomentOfUptoSaid : Prop := fnExactMomentOfUptoRow.holds Try.pinned (OpenSpec.upto fnExactMomentOfSpec)

/-- 'laws.FnExactRunRopes', WHERE WHAT IT READS IS OF BULK AT MOST 1048576: true; the input reads as it did. -/
def fnExactRunRopesUptoRow : OpenClaim := { program := "ytekbfekghheejaa", sum := "bfe780edc6539560950b73aa80e02b3f41659065d0c25e92d29820e0d995fe92", func := "loop.example/g01187/laws.FnExactRunRopes", spec := "fnExactRunRopes", plainKeys := false, apart := false, narrowed := true }
def FnExactRunRopesUptoSaid : Prop := fnExactRunRopesUptoRow.holds Try.pinned (OpenSpec.upto fnExactRunRopesSpec)

/-- 'laws.FnExactSortKit', WHERE WHAT IT READS IS OF BULK AT MOST 1048576: true; the input reads as it did. -/
def fnExactSortKitUptoRow : OpenClaim := { program := "ytekbfekghheejaa", sum := "bfe780edc6539560950b73aa80e02b3f41659065d0c25e92d29820e0d995fe92", func := "loop.example/g01187/laws.FnExactSortKit", spec := "fnExactSortKit", unfollowed := true, recurses := true, plainKeys := false, apart := false, narrowed := true }
def FnExactSortKitUptoSaid : Prop := fnExactSortKitUptoRow.holds Try.pinned (OpenSpec.upto fnExactSortKitSpec)

/-- 'laws.FnExactCountRopePlans', WHERE WHAT IT READS IS OF BULK AT MOST 1048576: true; the input reads as it did. -/
def fnExactCountRopePlansUptoRow : OpenClaim := { program := "ytekbfekghheejaa", sum := "bfe780edc6539560950b73aa80e02b3f41659065d0c25e92d29820e0d995fe92", func := "loop.example/g01187/laws.FnExactCountRopePlans", spec := "fnExactCountRopePlans", unfollowed := true, recurses := true, plainKeys := false, apart := false, narrowed := true }
def FnExactCountRopePlansUptoSaid : Prop := fnExactCountRopePlansUptoRow.holds Try.pinned (OpenSpec.upto fnExactCountRopePlansSpec)

end Rows
end Go.Proofs.Ytekbfekghheejaa
