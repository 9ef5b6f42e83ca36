/-
  No cell of these rows narrows 'for every input' (looked for: loops, veiled, ifaces, maps, wideKeys, modest, calm, conditions, laid).
  DERIVED. THE GIVEN ROWS OF THIS SEAT. 12 by the template 'for every input the law returns true; each argument reads behind the call as it read before'; 0 by the template 'total and deterministic' (their statements: YtncjoipckkkmjaaTotals.lean).
  GIVEN WITH THE SEED: the statements are not yours to turn. If you find one false, say at which input.
  Laid BY PROGRAM, IN A SANDBOX (cutbox-rows.mjs): the forced cells as the released guide's own fill.sh prints them over the translation 6fb3e1218ff1ac4d… (all of the seat's roots in one cut). By AI agents, Wed Nov 11 2026. No macro, syntax, notation, axiom, sorry.
-/
import Derived.Test.YtncjoipckkkmjaaChecked
import GoSem.Claim
import GoSem.ClaimJoined
import GoSem.ClaimMapViews
import Derived.JoinedTies
import Derived.KernelRfl
namespace Go.Proofs.Ytncjoipckkkmjaa
/- THE CELL 'sum', in the pinned program and in every row, IS THE sha256 OF THE DUMP (.gsa) THAT YtncjoipckkkmjaaProg.lean LOADS. Nothing in Lean hashes anything: it is a label: what it is worth is what the hold of that sum in a sandbox is worth. -/
noncomputable def Try.pinned : Pinned := { name := "ytncjoipckkkmjaa", sum := "6fb3e1218ff1ac4ddbce68412718802006bae3290e398bb1a2753e83ef946b55", checked := Try.checked }
namespace Rows
def none {H : Type} : Left H := { results := [], args := [] }

/-- 'laws.FnExactRunningSet': WHATEVER THE INPUT: true; the input reads as it did. -/
def fnExactRunningSetSpec : ChangeSpec := { name := "fnExactRunningSet", fn := fun _ => fun
  | [d1, d2] => { results := [.lit (.bool true)], args := [d1, d2] }
  | _ => none }
def fnExactRunningSetRow : OpenClaim := { program := "ytncjoipckkkmjaa", sum := "6fb3e1218ff1ac4ddbce68412718802006bae3290e398bb1a2753e83ef946b55", func := "loop.example/g01187/laws.FnExactRunningSet", spec := "fnExactRunningSet", apart := false }
def FnExactRunningSetSaid : Prop := fnExactRunningSetRow.holds Try.pinned (OpenSpec.ofChange fnExactRunningSetSpec)

/-- ITS FALSE NEIGHBOUR: 'it returns false'. Refute it at one input. -/
def fnExactRunningSetWrong : ChangeSpec := { name := "fnExactRunningSet", fn := fun _ => fun
  | [d1, d2] => { results := [.lit (.bool false)], args := [d1, d2] }
  | _ => none }
def FnExactRunningSetWrongFalsely : Prop := fnExactRunningSetRow.holds Try.pinned (OpenSpec.ofChange fnExactRunningSetWrong)

/-- 'laws.FnExactScaleKit': WHATEVER THE INPUT: true; the input reads as it did. -/
def fnExactScaleKitSpec : ChangeSpec := { name := "fnExactScaleKit", fn := fun _ => fun
  | [d1, d2] => { results := [.lit (.bool true)], args := [d1, d2] }
  | _ => none }
def fnExactScaleKitRow : OpenClaim := { program := "ytncjoipckkkmjaa", sum := "6fb3e1218ff1ac4ddbce68412718802006bae3290e398bb1a2753e83ef946b55", func := "loop.example/g01187/laws.FnExactScaleKit", spec := "fnExactScaleKit", apart := false }
def FnExactScaleKitSaid : Prop := fnExactScaleKitRow.holds Try.pinned (OpenSpec.ofChange fnExactScaleKitSpec)

/-- ITS FALSE NEIGHBOUR: 'it returns false'. Refute it at one input. -/
def fnExactScaleKitWrong : ChangeSpec := { name := "fnExactScaleKit", fn := fun _ => fun
  | [d1, d2] => { results := [.lit (.bool false)], args := [d1, d2] }
  | _ => none }
def FnExactScaleKitWrongFalsely : Prop := fnExactScaleKitRow.holds Try.pinned (OpenSpec.ofChange fnExactScaleKitWrong)

/-- 'laws.FnExactGlassGcd': WHATEVER THE INPUT: true; the input reads as it did. -/
def fnExactGlassGcdSpec : ChangeSpec := { name := "fnExactGlassGcd", fn := fun _ => fun
  | [d] => { results := [.lit (.bool true)], args := [d] }
  | _ => none }
def fnExactGlassGcdRow : OpenClaim := { program := "ytncjoipckkkmjaa", sum := "6fb3e1218ff1ac4ddbce68412718802006bae3290e398bb1a2753e83ef946b55", func := "loop.example/g01187/laws.FnExactGlassGcd", spec := "fnExactGlassGcd", apart := false }
def FnExactGlassGcdSaid : Prop := fnExactGlassGcdRow.holds Try.pinned (OpenSpec.ofChange fnExactGlassGcdSpec)

/-- ITS FALSE NEIGHBOUR: 'it returns false'. Refute it at one input. -/
def fnExactGlassGcdWrong : ChangeSpec := { name := "fnExactGlassGcd", fn := fun _ => fun
  | [d] => { results := [.lit (.bool false)], args := [d] }
  | _ => none }
def FnExactGlassGcdWrongFalsely : Prop := fnExactGlassGcdRow.holds Try.pinned (OpenSpec.ofChange fnExactGlassGcdWrong)

/-- 'laws.FnExactNextMoment': WHATEVER THE INPUT: true; the input reads as it did. -/
def fnExactNextMomentSpec : ChangeSpec := { name := "fnExactNextMoment", fn := fun _ => fun
  | [d1, d2] => { results := [.lit (.bool true)], args := [d1, d2] }
  | _ => none }
def fnExactNextMomentRow : OpenClaim := { program := "ytncjoipckkkmjaa", sum := "6fb3e1218ff1ac4ddbce68412718802006bae3290e398bb1a2753e83ef946b55", func := "loop.example/g01187/laws.FnExactNextMoment", spec := "fnExactNextMoment", apart := false }
def FnExactNextMomentSaid : Prop := fnExactNextMomentRow.holds Try.pinned (OpenSpec.ofChange fnExactNextMomentSpec)

/-- ITS FALSE NEIGHBOUR: 'it returns false'. Refute it at one input. -/
def fnExactNextMomentWrong : ChangeSpec := { name := "fnExactNextMoment", fn := fun _ => fun
  | [d1, d2] => { results := [.lit (.bool false)], args := [d1, d2] }
  | _ => none }
def FnExactNextMomentWrongFalsely : Prop := fnExactNextMomentRow.holds Try.pinned (OpenSpec.ofChange fnExactNextMomentWrong)

/-- 'laws.FnExactCommonMinutes': WHATEVER THE INPUT: true; the input reads as it did. -/
def fnExactCommonMinutesSpec : ChangeSpec := { name := "fnExactCommonMinutes", fn := fun _ => fun
  | [d1, d2] => { results := [.lit (.bool true)], args := [d1, d2] }
  | _ => none }
def fnExactCommonMinutesRow : OpenClaim := { program := "ytncjoipckkkmjaa", sum := "6fb3e1218ff1ac4ddbce68412718802006bae3290e398bb1a2753e83ef946b55", func := "loop.example/g01187/laws.FnExactCommonMinutes", spec := "fnExactCommonMinutes", apart := false }
def FnExactCommonMinutesSaid : Prop := fnExactCommonMinutesRow.holds Try.pinned (OpenSpec.ofChange fnExactCommonMinutesSpec)

/-- ITS FALSE NEIGHBOUR: 'it returns false'. Refute it at one input. -/
def fnExactCommonMinutesWrong : ChangeSpec := { name := "fnExactCommonMinutes", fn := fun _ => fun
  | [d1, d2] => { results := [.lit (.bool false)], args := [d1, d2] }
  | _ => none }
def FnExactCommonMinutesWrongFalsely : Prop := fnExactCommonMinutesRow.holds Try.pinned (OpenSpec.ofChange fnExactCommonMinutesWrong)

/-- 'laws.FnExactPassMinutes': WHATEVER THE INPUT: true; the input reads as it did. -/
def fnExactPassMinutesSpec : ChangeSpec := { name := "fnExactPassMinutes", fn := fun _ => fun
  | [d1, d2, d3] => { results := [.lit (.bool true)], args := [d1, d2, d3] }
  | _ => none }
def fnExactPassMinutesRow : OpenClaim := { program := "ytncjoipckkkmjaa", sum := "6fb3e1218ff1ac4ddbce68412718802006bae3290e398bb1a2753e83ef946b55", func := "loop.example/g01187/laws.FnExactPassMinutes", spec := "fnExactPassMinutes", apart := false }
def FnExactPassMinutesSaid : Prop := fnExactPassMinutesRow.holds Try.pinned (OpenSpec.ofChange fnExactPassMinutesSpec)

/-- ITS FALSE NEIGHBOUR: 'it returns false'. Refute it at one input. -/
def fnExactPassMinutesWrong : ChangeSpec := { name := "fnExactPassMinutes", fn := fun _ => fun
  | [d1, d2, d3] => { results := [.lit (.bool false)], args := [d1, d2, d3] }
  | _ => none }
def FnExactPassMinutesWrongFalsely : Prop := fnExactPassMinutesRow.holds Try.pinned (OpenSpec.ofChange fnExactPassMinutesWrong)

/-- 'laws.FnExactBurnRopes': WHATEVER THE INPUT: true; the input reads as it did. -/
def fnExactBurnRopesSpec : ChangeSpec := { name := "fnExactBurnRopes", fn := fun _ => fun
  | [d1, d2] => { results := [.lit (.bool true)], args := [d1, d2] }
  | _ => none }
def fnExactBurnRopesRow : OpenClaim := { program := "ytncjoipckkkmjaa", sum := "6fb3e1218ff1ac4ddbce68412718802006bae3290e398bb1a2753e83ef946b55", func := "loop.example/g01187/laws.FnExactBurnRopes", spec := "fnExactBurnRopes", apart := false }
def FnExactBurnRopesSaid : Prop := fnExactBurnRopesRow.holds Try.pinned (OpenSpec.ofChange fnExactBurnRopesSpec)

/-- ITS FALSE NEIGHBOUR: 'it returns false'. Refute it at one input. -/
def fnExactBurnRopesWrong : ChangeSpec := { name := "fnExactBurnRopes", fn := fun _ => fun
  | [d1, d2] => { results := [.lit (.bool false)], args := [d1, d2] }
  | _ => none }
def FnExactBurnRopesWrongFalsely : Prop := fnExactBurnRopesRow.holds Try.pinned (OpenSpec.ofChange fnExactBurnRopesWrong)

/-- 'laws.FnExactTurnGlasses': WHATEVER THE INPUT: true; the input reads as it did. -/
def fnExactTurnGlassesSpec : ChangeSpec := { name := "fnExactTurnGlasses", fn := fun _ => fun
  | [d1, d2, d3] => { results := [.lit (.bool true)], args := [d1, d2, d3] }
  | _ => none }
def fnExactTurnGlassesRow : OpenClaim := { program := "ytncjoipckkkmjaa", sum := "6fb3e1218ff1ac4ddbce68412718802006bae3290e398bb1a2753e83ef946b55", func := "loop.example/g01187/laws.FnExactTurnGlasses", spec := "fnExactTurnGlasses", apart := false }
def FnExactTurnGlassesSaid : Prop := fnExactTurnGlassesRow.holds Try.pinned (OpenSpec.ofChange fnExactTurnGlassesSpec)

/-- ITS FALSE NEIGHBOUR: 'it returns false'. Refute it at one input. -/
def fnExactTurnGlassesWrong : ChangeSpec := { name := "fnExactTurnGlasses", fn := fun _ => fun
  | [d1, d2, d3] => { results := [.lit (.bool false)], args := [d1, d2, d3] }
  | _ => none }
def FnExactTurnGlassesWrongFalsely : Prop := fnExactTurnGlassesRow.holds Try.pinned (OpenSpec.ofChange fnExactTurnGlassesWrong)

/-- 'laws.FnExactStepKit': WHATEVER THE INPUT: true; the input reads as it did. -/
def fnExactStepKitSpec : ChangeSpec := { name := "fnExactStepKit", fn := fun _ => fun
  | [d1, d2, d3] => { results := [.lit (.bool true)], args := [d1, d2, d3] }
  | _ => none }
def fnExactStepKitRow : OpenClaim := { program := "ytncjoipckkkmjaa", sum := "6fb3e1218ff1ac4ddbce68412718802006bae3290e398bb1a2753e83ef946b55", func := "loop.example/g01187/laws.FnExactStepKit", spec := "fnExactStepKit", apart := false }
def FnExactStepKitSaid : Prop := fnExactStepKitRow.holds Try.pinned (OpenSpec.ofChange fnExactStepKitSpec)

/-- ITS FALSE NEIGHBOUR: 'it returns false'. Refute it at one input. -/
def fnExactStepKitWrong : ChangeSpec := { name := "fnExactStepKit", fn := fun _ => fun
  | [d1, d2, d3] => { results := [.lit (.bool false)], args := [d1, d2, d3] }
  | _ => none }
def FnExactStepKitWrongFalsely : Prop := fnExactStepKitRow.holds Try.pinned (OpenSpec.ofChange fnExactStepKitWrong)

/-- 'laws.FnExactTurnsOf': WHATEVER THE INPUT: true; the input reads as it did. -/
def fnExactTurnsOfSpec : ChangeSpec := { name := "fnExactTurnsOf", fn := fun _ => fun
  | [d1, d2] => { results := [.lit (.bool true)], args := [d1, d2] }
  | _ => none }
def fnExactTurnsOfRow : OpenClaim := { program := "ytncjoipckkkmjaa", sum := "6fb3e1218ff1ac4ddbce68412718802006bae3290e398bb1a2753e83ef946b55", func := "loop.example/g01187/laws.FnExactTurnsOf", spec := "fnExactTurnsOf", unfollowed := true, recurses := true, apart := false }
def FnExactTurnsOfSaid : Prop := fnExactTurnsOfRow.holds Try.pinned (OpenSpec.ofChange fnExactTurnsOfSpec)

/-- ITS FALSE NEIGHBOUR: 'it returns false'. Refute it at one input. -/
def fnExactTurnsOfWrong : ChangeSpec := { name := "fnExactTurnsOf", fn := fun _ => fun
  | [d1, d2] => { results := [.lit (.bool false)], args := [d1, d2] }
  | _ => none }
def FnExactTurnsOfWrongFalsely : Prop := fnExactTurnsOfRow.holds Try.pinned (OpenSpec.ofChange fnExactTurnsOfWrong)

/-- 'laws.FnExactRunsHowFar': WHATEVER THE INPUT: true; the input reads as it did. -/
def fnExactRunsHowFarSpec : ChangeSpec := { name := "fnExactRunsHowFar", fn := fun _ => fun
  | [d1, d2, d3] => { results := [.lit (.bool true)], args := [d1, d2, d3] }
  | _ => none }
def fnExactRunsHowFarRow : OpenClaim := { program := "ytncjoipckkkmjaa", sum := "6fb3e1218ff1ac4ddbce68412718802006bae3290e398bb1a2753e83ef946b55", func := "loop.example/g01187/laws.FnExactRunsHowFar", spec := "fnExactRunsHowFar", unfollowed := true, recurses := true, apart := false }
def FnExactRunsHowFarSaid : Prop := fnExactRunsHowFarRow.holds Try.pinned (OpenSpec.ofChange fnExactRunsHowFarSpec)

/-- ITS FALSE NEIGHBOUR: 'it returns false'. Refute it at one input. -/
def fnExactRunsHowFarWrong : ChangeSpec := { name := "fnExactRunsHowFar", fn := fun _ => fun
  | [d1, d2, d3] => { results := [.lit (.bool false)], args := [d1, d2, d3] }
  | _ => none }
def FnExactRunsHowFarWrongFalsely : Prop := fnExactRunsHowFarRow.holds Try.pinned (OpenSpec.ofChange fnExactRunsHowFarWrong)

/-- 'laws.FnExactRunPlan': WHATEVER THE INPUT: true; the input reads as it did. -/
def fnExactRunPlanSpec : ChangeSpec := { name := "fnExactRunPlan", fn := fun _ => fun
  | [d1, d2, d3] => { results := [.lit (.bool true)], args := [d1, d2, d3] }
  | _ => none }
def fnExactRunPlanRow : OpenClaim := { program := "ytncjoipckkkmjaa", sum := "6fb3e1218ff1ac4ddbce68412718802006bae3290e398bb1a2753e83ef946b55", func := "loop.example/g01187/laws.FnExactRunPlan", spec := "fnExactRunPlan", unfollowed := true, recurses := true, apart := false }
def FnExactRunPlanSaid : Prop := fnExactRunPlanRow.holds Try.pinned (OpenSpec.ofChange fnExactRunPlanSpec)

/-- ITS FALSE NEIGHBOUR: 'it returns false'. Refute it at one input. -/
def fnExactRunPlanWrong : ChangeSpec := { name := "fnExactRunPlan", fn := fun _ => fun
  | [d1, d2, d3] => { results := [.lit (.bool false)], args := [d1, d2, d3] }
  | _ => none }
def FnExactRunPlanWrongFalsely : Prop := fnExactRunPlanRow.holds Try.pinned (OpenSpec.ofChange fnExactRunPlanWrong)

/- THE SECOND FORM. 'bulk': how many values and letters a reading holds, each counted each time it is reached (what is shared counts as often as it is met; a slice's spare places count too). A statement '..UptoSaid' is the law's where the arguments, and the package variables that the reading takes, are together of bulk at most 1048576: NARROWER than '..Said'. Prove '..Said' where nothing that the law and all that it calls make is longer than what came in: it says more and counts as full. Else prove '..UptoSaid'. A law counts once. -/
mutual
def uptoBulk {H : Type} : DataW H → Nat
  | .lit (.string bytes) => bytes.length + 1
  | .lit _ => 1
  | .nil => 1
  | .ptr d => uptoBulk d + 1
  | .slice elems spare => uptoBulkAll elems + uptoBulkAll spare + 1
  | .agg parts => uptoBulkAll parts + 1
  | .iface _ d => uptoBulk d + 1
  | .map entries => uptoBulkEntries entries + 1
  | .held _ => 1
def uptoBulkAll {H : Type} : List (DataW H) → Nat
  | [] => 0
  | d :: r => uptoBulk d + uptoBulkAll r
def uptoBulkEntries {H : Type} : List (Lit × DataW H) → Nat
  | [] => 0
  | x :: r => uptoBulkEntry x + uptoBulkEntries r
def uptoBulkEntry {H : Type} : Lit × DataW H → Nat
  | (.string bytes, d) => bytes.length + uptoBulk d + 1
  | (_, d) => uptoBulk d + 1
 end
def uptoSmall : (H : Type) → List (DataW H) → Bool := fun _ ds => decide (uptoBulkAll ds ≤ 1048576)
def OpenSpec.upto (s : _root_.Go.ChangeSpec) : _root_.Go.OpenSpec := { _root_.Go.OpenSpec.ofChange s with cond := some uptoSmall }

/-- 'laws.FnExactRunningSet', WHERE WHAT IT READS IS OF BULK AT MOST 1048576: true; the input reads as it did. -/
def fnExactRunningSetUptoRow : OpenClaim := { program := "ytncjoipckkkmjaa", sum := "6fb3e1218ff1ac4ddbce68412718802006bae3290e398bb1a2753e83ef946b55", func := "loop.example/g01187/laws.FnExactRunningSet", spec := "fnExactRunningSet", apart := false, narrowed := true }
def FnExactRunningSetUptoSaid : Prop := fnExactRunningSetUptoRow.holds Try.pinned (OpenSpec.upto fnExactRunningSetSpec)

/-- 'laws.FnExactScaleKit', WHERE WHAT IT READS IS OF BULK AT MOST 1048576: true; the input reads as it did. -/
def fnExactScaleKitUptoRow : OpenClaim := { program := "ytncjoipckkkmjaa", sum := "6fb3e1218ff1ac4ddbce68412718802006bae3290e398bb1a2753e83ef946b55", func := "loop.example/g01187/laws.FnExactScaleKit", spec := "fnExactScaleKit", apart := false, narrowed := true }
def FnExactScaleKitUptoSaid : Prop := fnExactScaleKitUptoRow.holds Try.pinned (OpenSpec.upto fnExactScaleKitSpec)

/-- 'laws.FnExactGlassGcd', WHERE WHAT IT READS IS OF BULK AT MOST 1048576: true; the input reads as it did. -/
def fnExactGlassGcdUptoRow : OpenClaim := { program := "ytncjoipckkkmjaa", sum := "6fb3e1218ff1ac4ddbce68412718802006bae3290e398bb1a2753e83ef946b55", func := "loop.example/g01187/laws.FnExactGlassGcd", spec := "fnExactGlassGcd", apart := false, narrowed := true }
def FnExactGlassGcdUptoSaid : Prop := fnExactGlassGcdUptoRow.holds Try.pinned (OpenSpec.upto fnExactGlassGcdSpec)

/-- 'laws.FnExactNextMoment', WHERE WHAT IT READS IS OF BULK AT MOST 1048576: true; the input reads as it did. -/
def fnExactNextMomentUptoRow : OpenClaim := { program := "ytncjoipckkkmjaa", sum := "6fb3e1218ff1ac4ddbce68412718802006bae3290e398bb1a2753e83ef946b55", func := "loop.example/g01187/laws.FnExactNextMoment", spec := "fnExactNextMoment", apart := false, narrowed := true }
def FnExactNextMomentUptoSaid : Prop := fnExactNextMomentUptoRow.holds Try.pinned (OpenSpec.upto fnExactNextMomentSpec)

/-- 'laws.FnExactCommonMinutes', WHERE WHAT IT READS IS OF BULK AT MOST 1048576: true; the input reads as it did. -/
def fnExactCommonMinutesUptoRow : OpenClaim := { program := "ytncjoipckkkmjaa", sum := "6fb3e1218ff1ac4ddbce68412718802006bae3290e398bb1a2753e83ef946b55", func := "loop.example/g01187/laws.FnExactCommonMinutes", spec := "fnExactCommonMinutes", apart := false, narrowed := true }
def FnExactCommonMinutesUptoSaid : Prop := fnExactCommonMinutesUptoRow.holds Try.pinned (OpenSpec.upto fnExactCommonMinutesSpec)

/-- 'laws.FnExactPassMinutes', WHERE WHAT IT READS IS OF BULK AT MOST 1048576: true; the input reads as it did. -/
def fnExactPassMinutesUptoRow : OpenClaim := { program := "ytncjoipckkkmjaa", sum := "6fb3e1218ff1ac4ddbce68412718802006bae3290e398bb1a2753e83ef946b55", func := "loop.example/g01187/laws.FnExactPassMinutes", spec := "fnExactPassMinutes", apart := false, narrowed := true }
def FnExactPassMinutesUptoSaid : Prop := fnExactPassMinutesUptoRow.holds Try.pinned (OpenSpec.upto fnExactPassMinutesSpec)

/-- 'laws.FnExactBurnRopes', WHERE WHAT IT READS IS OF BULK AT MOST 1048576: true; the input reads as it did. -/
def fnExactBurnRopesUptoRow : OpenClaim := { program := "ytncjoipckkkmjaa", sum := "6fb3e1218ff1ac4ddbce68412718802006bae3290e398bb1a2753e83ef946b55", func := "loop.example/g01187/laws.FnExactBurnRopes", spec := "fnExactBurnRopes", apart := false, narrowed := true }
def FnExactBurnRopesUptoSaid : Prop := fnExactBurnRopesUptoRow.holds Try.pinned (OpenSpec.upto fnExactBurnRopesSpec)

/-- 'laws.FnExactTurnGlasses', WHERE WHAT IT READS IS OF BULK AT MOST 1048576: true; the input reads as it did. -/
def fnExactTurnGlassesUptoRow : OpenClaim := { program := "ytncjoipckkkmjaa", sum := "6fb3e1218ff1ac4ddbce68412718802006bae3290e398bb1a2753e83ef946b55", func := "loop.example/g01187/laws.FnExactTurnGlasses", spec := "fnExactTurnGlasses", apart := false, narrowed := true }
def FnExactTurnGlassesUptoSaid : Prop := fnExactTurnGlassesUptoRow.holds Try.pinned (OpenSpec.upto fnExactTurnGlassesSpec)

/-- 'laws.FnExactStepKit', WHERE WHAT IT READS IS OF BULK AT MOST 1048576: true; the input reads as it did. -/
def fnExactStepKitUptoRow : OpenClaim := { program := "ytncjoipckkkmjaa", sum := "6fb3e1218ff1ac4ddbce68412718802006bae3290e398bb1a2753e83ef946b55", func := "loop.example/g01187/laws.FnExactStepKit", spec := "fnExactStepKit", apart := false, narrowed := true }
def FnExactStepKitUptoSaid : Prop := fnExactStepKitUptoRow.holds Try.pinned (OpenSpec.upto fnExactStepKitSpec)

/-- 'laws.FnExactTurnsOf', WHERE WHAT IT READS IS OF BULK AT MOST 1048576: true; the input reads as it did. -/
def fnExactTurnsOfUptoRow : OpenClaim := { program := "ytncjoipckkkmjaa", sum := "6fb3e1218ff1ac4ddbce68412718802006bae3290e398bb1a2753e83ef946b55", func := "loop.example/g01187/laws.FnExactTurnsOf", spec := "fnExactTurnsOf", unfollowed := true, recurses := true, apart := false, narrowed := true }
def FnExactTurnsOfUptoSaid : Prop := fnExactTurnsOfUptoRow.holds Try.pinned (OpenSpec.upto fnExactTurnsOfSpec)

/-- 'laws.FnExactRunsHowFar', WHERE WHAT IT READS IS OF BULK AT MOST 1048576: true; the input reads as it did. -/
def fnExactRunsHowFarUptoRow : OpenClaim := { program := "ytncjoipckkkmjaa", sum := "6fb3e1218ff1ac4ddbce68412718802006bae3290e398bb1a2753e83ef946b55", func := "loop.example/g01187/laws.FnExactRunsHowFar", spec := "fnExactRunsHowFar", unfollowed := true, recurses := true, apart := false, narrowed := true }
def FnExactRunsHowFarUptoSaid : Prop := fnExactRunsHowFarUptoRow.holds Try.pinned (OpenSpec.upto fnExactRunsHowFarSpec)

/-- 'laws.FnExactRunPlan', WHERE WHAT IT READS IS OF BULK AT MOST 1048576: true; the input reads as it did. -/
def fnExactRunPlanUptoRow : OpenClaim := { program := "ytncjoipckkkmjaa", sum := "6fb3e1218ff1ac4ddbce68412718802006bae3290e398bb1a2753e83ef946b55", func := "loop.example/g01187/laws.FnExactRunPlan", spec := "fnExactRunPlan", unfollowed := true, recurses := true, apart := false, narrowed := true }
def FnExactRunPlanUptoSaid : Prop := fnExactRunPlanUptoRow.holds Try.pinned (OpenSpec.upto fnExactRunPlanSpec)

end Rows
end Go.Proofs.Ytncjoipckkkmjaa
