/-
  No cell of these rows narrows 'for every input' (looked for: loops, veiled, ifaces, maps, wideKeys, modest, calm, conditions, laid).
  DERIVED. THE GIVEN ROWS OF THIS SEAT. 4 by the template 'for every input the law returns true; each argument reads behind the call as it read before'; 0 by the template 'total and deterministic' (their statements: YtdbnajaimodnmaaTotals.lean).
  GIVEN WITH THE SEED: the statements are not yours to turn. If you find one false, say at which input.
  Laid BY PROGRAM, IN A SANDBOX (cutbox-rows.mjs): the forced cells as the released guide's own fill.sh prints them over the translation 4d16724c909f03b8… (all of the seat's roots in one cut). By AI agents, Wed Nov 11 2026. No macro, syntax, notation, axiom, sorry.
-/
import Derived.Test.YtdbnajaimodnmaaChecked
import GoSem.Claim
import GoSem.ClaimJoined
import GoSem.ClaimMapViews
import Derived.JoinedTies
import Derived.KernelRfl
namespace Go.Proofs.Ytdbnajaimodnmaa
/- THE CELL 'sum', in the pinned program and in every row, IS THE sha256 OF THE DUMP (.gsa) THAT YtdbnajaimodnmaaProg.lean LOADS. Nothing in Lean hashes anything: it is a label: what it is worth is what the hold of that sum in a sandbox is worth. -/
noncomputable def Try.pinned : Pinned := { name := "ytdbnajaimodnmaa", sum := "4d16724c909f03b8d3f7d8e35c82eb82ad9360e70bd0b5fa3e141bb55d4b4168", checked := Try.checked }
namespace Rows
def none {H : Type} : Left H := { results := [], args := [] }

/-- 'laws.FnExactRunPlan': WHATEVER THE INPUT: true; the input reads as it did. -/
def fnExactRunPlanSpec : ChangeSpec := { name := "fnExactRunPlan", fn := fun _ => fun
  | [d1, d2, d3] => { results := [.lit (.bool true)], args := [d1, d2, d3] }
  | _ => none }
def fnExactRunPlanRow : OpenClaim := { program := "ytdbnajaimodnmaa", sum := "4d16724c909f03b8d3f7d8e35c82eb82ad9360e70bd0b5fa3e141bb55d4b4168", func := "loop.example/g01187/laws.FnExactRunPlan", spec := "fnExactRunPlan", unfollowed := true, recurses := true, apart := false }
def FnExactRunPlanSaid : Prop := fnExactRunPlanRow.holds Try.pinned (OpenSpec.ofChange fnExactRunPlanSpec)

/-- ITS FALSE NEIGHBOUR: 'it returns false'. Refute it at one input. -/
def fnExactRunPlanWrong : ChangeSpec := { name := "fnExactRunPlan", fn := fun _ => fun
  | [d1, d2, d3] => { results := [.lit (.bool false)], args := [d1, d2, d3] }
  | _ => none }
def FnExactRunPlanWrongFalsely : Prop := fnExactRunPlanRow.holds Try.pinned (OpenSpec.ofChange fnExactRunPlanWrong)

/-- 'laws.FnExactRunRopes': WHATEVER THE INPUT: true; the input reads as it did. -/
def fnExactRunRopesSpec : ChangeSpec := { name := "fnExactRunRopes", fn := fun _ => fun
  | [d1, d2] => { results := [.lit (.bool true)], args := [d1, d2] }
  | _ => none }
def fnExactRunRopesRow : OpenClaim := { program := "ytdbnajaimodnmaa", sum := "4d16724c909f03b8d3f7d8e35c82eb82ad9360e70bd0b5fa3e141bb55d4b4168", func := "loop.example/g01187/laws.FnExactRunRopes", spec := "fnExactRunRopes", apart := false }
def FnExactRunRopesSaid : Prop := fnExactRunRopesRow.holds Try.pinned (OpenSpec.ofChange fnExactRunRopesSpec)

/-- ITS FALSE NEIGHBOUR: 'it returns false'. Refute it at one input. -/
def fnExactRunRopesWrong : ChangeSpec := { name := "fnExactRunRopes", fn := fun _ => fun
  | [d1, d2] => { results := [.lit (.bool false)], args := [d1, d2] }
  | _ => none }
def FnExactRunRopesWrongFalsely : Prop := fnExactRunRopesRow.holds Try.pinned (OpenSpec.ofChange fnExactRunRopesWrong)

/-- 'laws.FnExactSortKit': WHATEVER THE INPUT: true; the input reads as it did. -/
def fnExactSortKitSpec : ChangeSpec := { name := "fnExactSortKit", fn := fun _ => fun
  | [d] => { results := [.lit (.bool true)], args := [d] }
  | _ => none }
def fnExactSortKitRow : OpenClaim := { program := "ytdbnajaimodnmaa", sum := "4d16724c909f03b8d3f7d8e35c82eb82ad9360e70bd0b5fa3e141bb55d4b4168", func := "loop.example/g01187/laws.FnExactSortKit", spec := "fnExactSortKit", unfollowed := true, recurses := true, apart := false }
def FnExactSortKitSaid : Prop := fnExactSortKitRow.holds Try.pinned (OpenSpec.ofChange fnExactSortKitSpec)

/-- ITS FALSE NEIGHBOUR: 'it returns false'. Refute it at one input. -/
def fnExactSortKitWrong : ChangeSpec := { name := "fnExactSortKit", fn := fun _ => fun
  | [d] => { results := [.lit (.bool false)], args := [d] }
  | _ => none }
def FnExactSortKitWrongFalsely : Prop := fnExactSortKitRow.holds Try.pinned (OpenSpec.ofChange fnExactSortKitWrong)

/-- 'laws.FnExactCountRopePlans': WHATEVER THE INPUT: true; the input reads as it did. -/
def fnExactCountRopePlansSpec : ChangeSpec := { name := "fnExactCountRopePlans", fn := fun _ => fun
  | [d1, d2] => { results := [.lit (.bool true)], args := [d1, d2] }
  | _ => none }
def fnExactCountRopePlansRow : OpenClaim := { program := "ytdbnajaimodnmaa", sum := "4d16724c909f03b8d3f7d8e35c82eb82ad9360e70bd0b5fa3e141bb55d4b4168", func := "loop.example/g01187/laws.FnExactCountRopePlans", spec := "fnExactCountRopePlans", unfollowed := true, recurses := true, apart := false }
def FnExactCountRopePlansSaid : Prop := fnExactCountRopePlansRow.holds Try.pinned (OpenSpec.ofChange fnExactCountRopePlansSpec)

/-- ITS FALSE NEIGHBOUR: 'it returns false'. Refute it at one input. -/
def fnExactCountRopePlansWrong : ChangeSpec := { name := "fnExactCountRopePlans", fn := fun _ => fun
  | [d1, d2] => { results := [.lit (.bool false)], args := [d1, d2] }
  | _ => none }
def FnExactCountRopePlansWrongFalsely : Prop := fnExactCountRopePlansRow.holds Try.pinned (OpenSpec.ofChange fnExactCountRopePlansWrong)

/- THE SECOND FORM. 'bulk': how many values and letters a reading holds, each counted each time it is reached (what is shared counts as often as it is met; a slice's spare places count too). A statement '..UptoSaid' is the law's where the arguments, and the package variables that the reading takes, are together of bulk at most 1048576: NARROWER than '..Said'. Prove '..Said' where nothing that the law and all that it calls make is longer than what came in: it says more and counts as full. Else prove '..UptoSaid'. A law counts once. -/
mutual
def uptoBulk {H : Type} : DataW H → Nat
  | .lit (.string bytes) => bytes.length + 1
  | .lit _ => 1
  | .nil => 1
  | .ptr d => uptoBulk d + 1
  | .slice elems spare => uptoBulkAll elems + uptoBulkAll spare + 1
  | .agg parts => uptoBulkAll parts + 1
  | .iface _ d => uptoBulk d + 1
  | .map entries => uptoBulkEntries entries + 1
  | .held _ => 1
def uptoBulkAll {H : Type} : List (DataW H) → Nat
  | [] => 0
  | d :: r => uptoBulk d + uptoBulkAll r
def uptoBulkEntries {H : Type} : List (Lit × DataW H) → Nat
  | [] => 0
  | x :: r => uptoBulkEntry x + uptoBulkEntries r
def uptoBulkEntry {H : Type} : Lit × DataW H → Nat
  | (.string bytes, d) => bytes.length + uptoBulk d + 1
  | (_, d) => uptoBulk d + 1
 end
def uptoSmall : (H : Type) → List (DataW H) → Bool := fun _ ds => decide (uptoBulkAll ds ≤ 1048576)
def OpenSpec.upto (s : _root_.Go.ChangeSpec) : _root_.Go.OpenSpec := { _root_.Go.OpenSpec.ofChange s with cond := some uptoSmall }

/-- 'laws.FnExactRunPlan', WHERE WHAT IT READS IS OF BULK AT MOST 1048576: true; the input reads as it did. -/
def fnExactRunPlanUptoRow : OpenClaim := { program := "ytdbnajaimodnmaa", sum := "4d16724c909f03b8d3f7d8e35c82eb82ad9360e70bd0b5fa3e141bb55d4b4168", func := "loop.example/g01187/laws.FnExactRunPlan", spec := "fnExactRunPlan", unfollowed := true, recurses := true, apart := false, narrowed := true }
def FnExactRunPlanUptoSaid : Prop := fnExactRunPlanUptoRow.holds Try.pinned (OpenSpec.upto fnExactRunPlanSpec)

/-- 'laws.FnExactRunRopes', WHERE WHAT IT READS IS OF BULK AT MOST 1048576: true; the input reads as it did. -/
def fnExactRunRopesUptoRow : OpenClaim := { program := "ytdbnajaimodnmaa", sum := "4d16724c909f03b8d3f7d8e35c82eb82ad9360e70bd0b5fa3e141bb55d4b4168", func := "loop.example/g01187/laws.FnExactRunRopes", spec := "fnExactRunRopes", apart := false, narrowed := true }
def FnExactRunRopesUptoSaid : Prop := fnExactRunRopesUptoRow.holds Try.pinned (OpenSpec.upto fnExactRunRopesSpec)

/-- 'laws.FnExactSortKit', WHERE WHAT IT READS IS OF BULK AT MOST 1048576: true; the input reads as it did. -/
def fnExactSortKitUptoRow : OpenClaim := { program := "ytdbnajaimodnmaa", sum := "4d16724c909f03b8d3f7d8e35c82eb82ad9360e70bd0b5fa3e141bb55d4b4168", func := "loop.example/g01187/laws.FnExactSortKit", spec := "fnExactSortKit", unfollowed := true, recurses := true, apart := false, narrowed := true }
def FnExactSortKitUptoSaid : Prop := fnExactSortKitUptoRow.holds Try.pinned (OpenSpec.upto fnExactSortKitSpec)

/-- 'laws.FnExactCountRopePlans', WHERE WHAT IT READS IS OF BULK AT MOST 1048576: true; the input reads as it did. -/
def fnExactCountRopePlansUptoRow : OpenClaim := { program := "ytdbnajaimodnmaa", sum := "4d16724c909f03b8d3f7d8e35c82eb82ad9360e70bd0b5fa3e141bb55d4b4168", func := "loop.example/g01187/laws.FnExactCountRopePlans", spec := "fnExactCountRopePlans", unfollowed := true, recurses := true, apart := false, narrowed := true }
def FnExactCountRopePlansUptoSaid : Prop := fnExactCountRopePlansUptoRow.holds Try.pinned (OpenSpec.upto fnExactCountRopePlansSpec)

end Rows
end Go.Proofs.Ytdbnajaimodnmaa
