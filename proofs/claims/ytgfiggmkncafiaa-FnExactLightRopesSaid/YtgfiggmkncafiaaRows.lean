/-
  No cell of these rows narrows 'for every input' (looked for: loops, veiled, ifaces, maps, wideKeys, modest, calm, conditions, laid).
  DERIVED. THE GIVEN ROWS OF THIS SEAT. 12 by the template 'for every input the law returns true; each argument reads behind the call as it read before'; 0 by the template 'total and deterministic' (their statements: YtgfiggmkncafiaaTotals.lean).
  GIVEN WITH THE SEED: the statements are not yours to turn. If you find one false, say at which input.
  Laid BY PROGRAM, IN A SANDBOX (cutbox-rows.mjs): the forced cells as the released guide's own fill.sh prints them over the translation fc638e24111523b9… (all of the seat's roots in one cut). By AI agents, Wed Nov 11 2026. No macro, syntax, notation, axiom, sorry.
-/
import Derived.Test.YtgfiggmkncafiaaChecked
import GoSem.Claim
import GoSem.ClaimJoined
import GoSem.ClaimMapViews
import Derived.JoinedTies
import Derived.KernelRfl
namespace Go.Proofs.Ytgfiggmkncafiaa
/- THE CELL 'sum', in the pinned program and in every row, IS THE sha256 OF THE DUMP (.gsa) THAT YtgfiggmkncafiaaProg.lean LOADS. Nothing in Lean hashes anything: it is a label: what it is worth is what the hold of that sum in a sandbox is worth. -/
noncomputable def Try.pinned : Pinned := { name := "ytgfiggmkncafiaa", sum := "fc638e24111523b9ad4ac8a3ff2282923101f0a099e87595a28c9de4692413de", checked := Try.checked }
namespace Rows
def none {H : Type} : Left H := { results := [], args := [] }

/-- 'laws.FnExactConstants': WHATEVER THE INPUT: true; the input reads as it did. -/
def fnExactConstantsSpec : ChangeSpec := { name := "fnExactConstants", fn := fun _ => fun
  | [] => { results := [.lit (.bool true)], args := [] }
  | _ => none }
def fnExactConstantsRow : OpenClaim := { program := "ytgfiggmkncafiaa", sum := "fc638e24111523b9ad4ac8a3ff2282923101f0a099e87595a28c9de4692413de", func := "loop.example/g01187/laws.FnExactConstants", spec := "fnExactConstants", apart := false }
def FnExactConstantsSaid : Prop := fnExactConstantsRow.holds Try.pinned (OpenSpec.ofChange fnExactConstantsSpec)

/-- ITS FALSE NEIGHBOUR: 'it returns false'. Refute it at one input. -/
def fnExactConstantsWrong : ChangeSpec := { name := "fnExactConstants", fn := fun _ => fun
  | [] => { results := [.lit (.bool false)], args := [] }
  | _ => none }
def FnExactConstantsWrongFalsely : Prop := fnExactConstantsRow.holds Try.pinned (OpenSpec.ofChange fnExactConstantsWrong)

/-- 'laws.FnExactLessString': WHATEVER THE INPUT: true; the input reads as it did. -/
def fnExactLessStringSpec : ChangeSpec := { name := "fnExactLessString", fn := fun _ => fun
  | [d1, d2] => { results := [.lit (.bool true)], args := [d1, d2] }
  | _ => none }
def fnExactLessStringRow : OpenClaim := { program := "ytgfiggmkncafiaa", sum := "fc638e24111523b9ad4ac8a3ff2282923101f0a099e87595a28c9de4692413de", func := "loop.example/g01187/laws.FnExactLessString", spec := "fnExactLessString", apart := false }
def FnExactLessStringSaid : Prop := fnExactLessStringRow.holds Try.pinned (OpenSpec.ofChange fnExactLessStringSpec)

/-- ITS FALSE NEIGHBOUR: 'it returns false'. Refute it at one input. -/
def fnExactLessStringWrong : ChangeSpec := { name := "fnExactLessString", fn := fun _ => fun
  | [d1, d2] => { results := [.lit (.bool false)], args := [d1, d2] }
  | _ => none }
def FnExactLessStringWrongFalsely : Prop := fnExactLessStringRow.holds Try.pinned (OpenSpec.ofChange fnExactLessStringWrong)

/-- 'laws.FnExactChecksum': WHATEVER THE INPUT: true; the input reads as it did. -/
def fnExactChecksumSpec : ChangeSpec := { name := "fnExactChecksum", fn := fun _ => fun
  | [d] => { results := [.lit (.bool true)], args := [d] }
  | _ => none }
def fnExactChecksumRow : OpenClaim := { program := "ytgfiggmkncafiaa", sum := "fc638e24111523b9ad4ac8a3ff2282923101f0a099e87595a28c9de4692413de", func := "loop.example/g01187/laws.FnExactChecksum", spec := "fnExactChecksum", apart := false }
def FnExactChecksumSaid : Prop := fnExactChecksumRow.holds Try.pinned (OpenSpec.ofChange fnExactChecksumSpec)

/-- ITS FALSE NEIGHBOUR: 'it returns false'. Refute it at one input. -/
def fnExactChecksumWrong : ChangeSpec := { name := "fnExactChecksum", fn := fun _ => fun
  | [d] => { results := [.lit (.bool false)], args := [d] }
  | _ => none }
def FnExactChecksumWrongFalsely : Prop := fnExactChecksumRow.holds Try.pinned (OpenSpec.ofChange fnExactChecksumWrong)

/-- 'laws.FnExactIsRopes': WHATEVER THE INPUT: true; the input reads as it did. -/
def fnExactIsRopesSpec : ChangeSpec := { name := "fnExactIsRopes", fn := fun _ => fun
  | [d] => { results := [.lit (.bool true)], args := [d] }
  | _ => none }
def fnExactIsRopesRow : OpenClaim := { program := "ytgfiggmkncafiaa", sum := "fc638e24111523b9ad4ac8a3ff2282923101f0a099e87595a28c9de4692413de", func := "loop.example/g01187/laws.FnExactIsRopes", spec := "fnExactIsRopes", apart := false }
def FnExactIsRopesSaid : Prop := fnExactIsRopesRow.holds Try.pinned (OpenSpec.ofChange fnExactIsRopesSpec)

/-- ITS FALSE NEIGHBOUR: 'it returns false'. Refute it at one input. -/
def fnExactIsRopesWrong : ChangeSpec := { name := "fnExactIsRopes", fn := fun _ => fun
  | [d] => { results := [.lit (.bool false)], args := [d] }
  | _ => none }
def FnExactIsRopesWrongFalsely : Prop := fnExactIsRopesRow.holds Try.pinned (OpenSpec.ofChange fnExactIsRopesWrong)

/-- 'laws.FnExactIsKit': WHATEVER THE INPUT: true; the input reads as it did. -/
def fnExactIsKitSpec : ChangeSpec := { name := "fnExactIsKit", fn := fun _ => fun
  | [d] => { results := [.lit (.bool true)], args := [d] }
  | _ => none }
def fnExactIsKitRow : OpenClaim := { program := "ytgfiggmkncafiaa", sum := "fc638e24111523b9ad4ac8a3ff2282923101f0a099e87595a28c9de4692413de", func := "loop.example/g01187/laws.FnExactIsKit", spec := "fnExactIsKit", apart := false }
def FnExactIsKitSaid : Prop := fnExactIsKitRow.holds Try.pinned (OpenSpec.ofChange fnExactIsKitSpec)

/-- ITS FALSE NEIGHBOUR: 'it returns false'. Refute it at one input. -/
def fnExactIsKitWrong : ChangeSpec := { name := "fnExactIsKit", fn := fun _ => fun
  | [d] => { results := [.lit (.bool false)], args := [d] }
  | _ => none }
def FnExactIsKitWrongFalsely : Prop := fnExactIsKitRow.holds Try.pinned (OpenSpec.ofChange fnExactIsKitWrong)

/-- 'laws.FnExactFreshRopes': WHATEVER THE INPUT: true; the input reads as it did. -/
def fnExactFreshRopesSpec : ChangeSpec := { name := "fnExactFreshRopes", fn := fun _ => fun
  | [d] => { results := [.lit (.bool true)], args := [d] }
  | _ => none }
def fnExactFreshRopesRow : OpenClaim := { program := "ytgfiggmkncafiaa", sum := "fc638e24111523b9ad4ac8a3ff2282923101f0a099e87595a28c9de4692413de", func := "loop.example/g01187/laws.FnExactFreshRopes", spec := "fnExactFreshRopes", apart := false }
def FnExactFreshRopesSaid : Prop := fnExactFreshRopesRow.holds Try.pinned (OpenSpec.ofChange fnExactFreshRopesSpec)

/-- ITS FALSE NEIGHBOUR: 'it returns false'. Refute it at one input. -/
def fnExactFreshRopesWrong : ChangeSpec := { name := "fnExactFreshRopes", fn := fun _ => fun
  | [d] => { results := [.lit (.bool false)], args := [d] }
  | _ => none }
def FnExactFreshRopesWrongFalsely : Prop := fnExactFreshRopesRow.holds Try.pinned (OpenSpec.ofChange fnExactFreshRopesWrong)

/-- 'laws.FnExactIsNarrow': WHATEVER THE INPUT: true; the input reads as it did. -/
def fnExactIsNarrowSpec : ChangeSpec := { name := "fnExactIsNarrow", fn := fun _ => fun
  | [d] => { results := [.lit (.bool true)], args := [d] }
  | _ => none }
def fnExactIsNarrowRow : OpenClaim := { program := "ytgfiggmkncafiaa", sum := "fc638e24111523b9ad4ac8a3ff2282923101f0a099e87595a28c9de4692413de", func := "loop.example/g01187/laws.FnExactIsNarrow", spec := "fnExactIsNarrow", apart := false }
def FnExactIsNarrowSaid : Prop := fnExactIsNarrowRow.holds Try.pinned (OpenSpec.ofChange fnExactIsNarrowSpec)

/-- ITS FALSE NEIGHBOUR: 'it returns false'. Refute it at one input. -/
def fnExactIsNarrowWrong : ChangeSpec := { name := "fnExactIsNarrow", fn := fun _ => fun
  | [d] => { results := [.lit (.bool false)], args := [d] }
  | _ => none }
def FnExactIsNarrowWrongFalsely : Prop := fnExactIsNarrowRow.holds Try.pinned (OpenSpec.ofChange fnExactIsNarrowWrong)

/-- 'laws.FnExactIsSand': WHATEVER THE INPUT: true; the input reads as it did. -/
def fnExactIsSandSpec : ChangeSpec := { name := "fnExactIsSand", fn := fun _ => fun
  | [d1, d2] => { results := [.lit (.bool true)], args := [d1, d2] }
  | _ => none }
def fnExactIsSandRow : OpenClaim := { program := "ytgfiggmkncafiaa", sum := "fc638e24111523b9ad4ac8a3ff2282923101f0a099e87595a28c9de4692413de", func := "loop.example/g01187/laws.FnExactIsSand", spec := "fnExactIsSand", apart := false }
def FnExactIsSandSaid : Prop := fnExactIsSandRow.holds Try.pinned (OpenSpec.ofChange fnExactIsSandSpec)

/-- ITS FALSE NEIGHBOUR: 'it returns false'. Refute it at one input. -/
def fnExactIsSandWrong : ChangeSpec := { name := "fnExactIsSand", fn := fun _ => fun
  | [d1, d2] => { results := [.lit (.bool false)], args := [d1, d2] }
  | _ => none }
def FnExactIsSandWrongFalsely : Prop := fnExactIsSandRow.holds Try.pinned (OpenSpec.ofChange fnExactIsSandWrong)

/-- 'laws.FnExactAllGlasses': WHATEVER THE INPUT: true; the input reads as it did. -/
def fnExactAllGlassesSpec : ChangeSpec := { name := "fnExactAllGlasses", fn := fun _ => fun
  | [d] => { results := [.lit (.bool true)], args := [d] }
  | _ => none }
def fnExactAllGlassesRow : OpenClaim := { program := "ytgfiggmkncafiaa", sum := "fc638e24111523b9ad4ac8a3ff2282923101f0a099e87595a28c9de4692413de", func := "loop.example/g01187/laws.FnExactAllGlasses", spec := "fnExactAllGlasses", apart := false }
def FnExactAllGlassesSaid : Prop := fnExactAllGlassesRow.holds Try.pinned (OpenSpec.ofChange fnExactAllGlassesSpec)

/-- ITS FALSE NEIGHBOUR: 'it returns false'. Refute it at one input. -/
def fnExactAllGlassesWrong : ChangeSpec := { name := "fnExactAllGlasses", fn := fun _ => fun
  | [d] => { results := [.lit (.bool false)], args := [d] }
  | _ => none }
def FnExactAllGlassesWrongFalsely : Prop := fnExactAllGlassesRow.holds Try.pinned (OpenSpec.ofChange fnExactAllGlassesWrong)

/-- 'laws.FnExactPutGlass': WHATEVER THE INPUT: true; the input reads as it did. -/
def fnExactPutGlassSpec : ChangeSpec := { name := "fnExactPutGlass", fn := fun _ => fun
  | [d1, d2, d3] => { results := [.lit (.bool true)], args := [d1, d2, d3] }
  | _ => none }
def fnExactPutGlassRow : OpenClaim := { program := "ytgfiggmkncafiaa", sum := "fc638e24111523b9ad4ac8a3ff2282923101f0a099e87595a28c9de4692413de", func := "loop.example/g01187/laws.FnExactPutGlass", spec := "fnExactPutGlass", apart := false }
def FnExactPutGlassSaid : Prop := fnExactPutGlassRow.holds Try.pinned (OpenSpec.ofChange fnExactPutGlassSpec)

/-- ITS FALSE NEIGHBOUR: 'it returns false'. Refute it at one input. -/
def fnExactPutGlassWrong : ChangeSpec := { name := "fnExactPutGlass", fn := fun _ => fun
  | [d1, d2, d3] => { results := [.lit (.bool false)], args := [d1, d2, d3] }
  | _ => none }
def FnExactPutGlassWrongFalsely : Prop := fnExactPutGlassRow.holds Try.pinned (OpenSpec.ofChange fnExactPutGlassWrong)

/-- 'laws.FnExactNextBurning': WHATEVER THE INPUT: true; the input reads as it did. -/
def fnExactNextBurningSpec : ChangeSpec := { name := "fnExactNextBurning", fn := fun _ => fun
  | [d] => { results := [.lit (.bool true)], args := [d] }
  | _ => none }
def fnExactNextBurningRow : OpenClaim := { program := "ytgfiggmkncafiaa", sum := "fc638e24111523b9ad4ac8a3ff2282923101f0a099e87595a28c9de4692413de", func := "loop.example/g01187/laws.FnExactNextBurning", spec := "fnExactNextBurning", apart := false }
def FnExactNextBurningSaid : Prop := fnExactNextBurningRow.holds Try.pinned (OpenSpec.ofChange fnExactNextBurningSpec)

/-- ITS FALSE NEIGHBOUR: 'it returns false'. Refute it at one input. -/
def fnExactNextBurningWrong : ChangeSpec := { name := "fnExactNextBurning", fn := fun _ => fun
  | [d] => { results := [.lit (.bool false)], args := [d] }
  | _ => none }
def FnExactNextBurningWrongFalsely : Prop := fnExactNextBurningRow.holds Try.pinned (OpenSpec.ofChange fnExactNextBurningWrong)

/-- 'laws.FnExactLightRopes': WHATEVER THE INPUT: true; the input reads as it did. -/
def fnExactLightRopesSpec : ChangeSpec := { name := "fnExactLightRopes", fn := fun _ => fun
  | [d1, d2] => { results := [.lit (.bool true)], args := [d1, d2] }
  | _ => none }
def fnExactLightRopesRow : OpenClaim := { program := "ytgfiggmkncafiaa", sum := "fc638e24111523b9ad4ac8a3ff2282923101f0a099e87595a28c9de4692413de", func := "loop.example/g01187/laws.FnExactLightRopes", spec := "fnExactLightRopes", apart := false }
def FnExactLightRopesSaid : Prop := fnExactLightRopesRow.holds Try.pinned (OpenSpec.ofChange fnExactLightRopesSpec)

/-- ITS FALSE NEIGHBOUR: 'it returns false'. Refute it at one input. -/
def fnExactLightRopesWrong : ChangeSpec := { name := "fnExactLightRopes", fn := fun _ => fun
  | [d1, d2] => { results := [.lit (.bool false)], args := [d1, d2] }
  | _ => none }
def FnExactLightRopesWrongFalsely : Prop := fnExactLightRopesRow.holds Try.pinned (OpenSpec.ofChange fnExactLightRopesWrong)

/- THE SECOND FORM. 'bulk': how many values and letters a reading holds, each counted each time it is reached (what is shared counts as often as it is met; a slice's spare places count too). A statement '..UptoSaid' is the law's where the arguments, and the package variables that the reading takes, are together of bulk at most 1048576: NARROWER than '..Said'. Prove '..Said' where nothing that the law and all that it calls make is longer than what came in: it says more and counts as full. Else prove '..UptoSaid'. A law counts once. -/
mutual
def uptoBulk {H : Type} : DataW H → Nat
  | .lit (.string bytes) => bytes.length + 1
  | .lit _ => 1
  | .nil => 1
  | .ptr d => uptoBulk d + 1
  | .slice elems spare => uptoBulkAll elems + uptoBulkAll spare + 1
  | .agg parts => uptoBulkAll parts + 1
  | .iface _ d => uptoBulk d + 1
  | .map entries => uptoBulkEntries entries + 1
  | .held _ => 1
def uptoBulkAll {H : Type} : List (DataW H) → Nat
  | [] => 0
  | d :: r => uptoBulk d + uptoBulkAll r
def uptoBulkEntries {H : Type} : List (Lit × DataW H) → Nat
  | [] => 0
  | x :: r => uptoBulkEntry x + uptoBulkEntries r
def uptoBulkEntry {H : Type} : Lit × DataW H → Nat
  | (.string bytes, d) => bytes.length + uptoBulk d + 1
  | (_, d) => uptoBulk d + 1
 end
def uptoSmall : (H : Type) → List (DataW H) → Bool := fun _ ds => decide (uptoBulkAll ds ≤ 1048576)
def OpenSpec.upto (s : _root_.Go.ChangeSpec) : _root_.Go.OpenSpec := { _root_.Go.OpenSpec.ofChange s with cond := some uptoSmall }

/-- 'laws.FnExactConstants', WHERE WHAT IT READS IS OF BULK AT MOST 1048576: true; the input reads as it did. -/
def fnExactConstantsUptoRow : OpenClaim := { program := "ytgfiggmkncafiaa", sum := "fc638e24111523b9ad4ac8a3ff2282923101f0a099e87595a28c9de4692413de", func := "loop.example/g01187/laws.FnExactConstants", spec := "fnExactConstants", apart := false, narrowed := true }
def FnExactConstantsUptoSaid : Prop := fnExactConstantsUptoRow.holds Try.pinned (OpenSpec.upto fnExactConstantsSpec)

/-- 'laws.FnExactLessString', WHERE WHAT IT READS IS OF BULK AT MOST 1048576: true; the input reads as it did. -/
def fnExactLessStringUptoRow : OpenClaim := { program := "ytgfiggmkncafiaa", sum := "fc638e24111523b9ad4ac8a3ff2282923101f0a099e87595a28c9de4692413de", func := "loop.example/g01187/laws.FnExactLessString", spec := "fnExactLessString", apart := false, narrowed := true }
def FnExactLessStringUptoSaid : Prop := fnExactLessStringUptoRow.holds Try.pinned (OpenSpec.upto fnExactLessStringSpec)

/-- 'laws.FnExactChecksum', WHERE WHAT IT READS IS OF BULK AT MOST 1048576: true; the input reads as it did. -/
def fnExactChecksumUptoRow : OpenClaim := { program := "ytgfiggmkncafiaa", sum := "fc638e24111523b9ad4ac8a3ff2282923101f0a099e87595a28c9de4692413de", func := "loop.example/g01187/laws.FnExactChecksum", spec := "fnExactChecksum", apart := false, narrowed := true }
def FnExactChecksumUptoSaid : Prop := fnExactChecksumUptoRow.holds Try.pinned (OpenSpec.upto fnExactChecksumSpec)

/-- 'laws.FnExactIsRopes', WHERE WHAT IT READS IS OF BULK AT MOST 1048576: true; the input reads as it did. -/
def fnExactIsRopesUptoRow : OpenClaim := { program := "ytgfiggmkncafiaa", sum := "fc638e24111523b9ad4ac8a3ff2282923101f0a099e87595a28c9de4692413de", func := "loop.example/g01187/laws.FnExactIsRopes", spec := "fnExactIsRopes", apart := false, narrowed := true }
def FnExactIsRopesUptoSaid : Prop := fnExactIsRopesUptoRow.holds Try.pinned (OpenSpec.upto fnExactIsRopesSpec)

/-- 'laws.FnExactIsKit', WHERE WHAT IT READS IS OF BULK AT MOST 1048576: true; the input reads as it did. -/
def fnExactIsKitUptoRow : OpenClaim := { program := "ytgfiggmkncafiaa", sum := "fc638e24111523b9ad4ac8a3ff2282923101f0a099e87595a28c9de4692413de", func := "loop.example/g01187/laws.FnExactIsKit", spec := "fnExactIsKit", apart := false, narrowed := true }
def FnExactIsKitUptoSaid : Prop := fnExactIsKitUptoRow.holds Try.pinned (OpenSpec.upto fnExactIsKitSpec)

/-- 'laws.FnExactFreshRopes', WHERE WHAT IT READS IS OF BULK AT MOST 1048576: true; the input reads as it did. -/
def fnExactFreshRopesUptoRow : OpenClaim := { program := "ytgfiggmkncafiaa", sum := "fc638e24111523b9ad4ac8a3ff2282923101f0a099e87595a28c9de4692413de", func := "loop.example/g01187/laws.FnExactFreshRopes", spec := "fnExactFreshRopes", apart := false, narrowed := true }
def FnExactFreshRopesUptoSaid : Prop := fnExactFreshRopesUptoRow.holds Try.pinned (OpenSpec.upto fnExactFreshRopesSpec)

/-- 'laws.FnExactIsNarrow', WHERE WHAT IT READS IS OF BULK AT MOST 1048576: true; the input reads as it did. -/
def fnExactIsNarrowUptoRow : OpenClaim := { program := "ytgfiggmkncafiaa", sum := "fc638e24111523b9ad4ac8a3ff2282923101f0a099e87595a28c9de4692413de", func := "loop.example/g01187/laws.FnExactIsNarrow", spec := "fnExactIsNarrow", apart := false, narrowed := true }
def FnExactIsNarrowUptoSaid : Prop := fnExactIsNarrowUptoRow.holds Try.pinned (OpenSpec.upto fnExactIsNarrowSpec)

/-- 'laws.FnExactIsSand', WHERE WHAT IT READS IS OF BULK AT MOST 1048576: true; the input reads as it did. -/
def fnExactIsSandUptoRow : OpenClaim := { program := "ytgfiggmkncafiaa", sum := "fc638e24111523b9ad4ac8a3ff2282923101f0a099e87595a28c9de4692413de", func := "loop.example/g01187/laws.FnExactIsSand", spec := "fnExactIsSand", apart := false, narrowed := true }
def FnExactIsSandUptoSaid : Prop := fnExactIsSandUptoRow.holds Try.pinned (OpenSpec.upto fnExactIsSandSpec)

/-- 'laws.FnExactAllGlasses', WHERE WHAT IT READS IS OF BULK AT MOST 1048576: true; the input reads as it did. -/
def fnExactAllGlassesUptoRow : OpenClaim := { program := "ytgfiggmkncafiaa", sum := "fc638e24111523b9ad4ac8a3ff2282923101f0a099e87595a28c9de4692413de", func := "loop.example/g01187/laws.FnExactAllGlasses", spec := "fnExactAllGlasses", apart := false, narrowed := true }
def FnExactAllGlassesUptoSaid : Prop := fnExactAllGlassesUptoRow.holds Try.pinned (OpenSpec.upto fnExactAllGlassesSpec)

/-- 'laws.FnExactPutGlass', WHERE WHAT IT READS IS OF BULK AT MOST 1048576: true; the input reads as it did. -/
def fnExactPutGlassUptoRow : OpenClaim := { program := "ytgfiggmkncafiaa", sum := "fc638e24111523b9ad4ac8a3ff2282923101f0a099e87595a28c9de4692413de", func := "loop.example/g01187/laws.FnExactPutGlass", spec := "fnExactPutGlass", apart := false, narrowed := true }
def FnExactPutGlassUptoSaid : Prop := fnExactPutGlassUptoRow.holds Try.pinned (OpenSpec.upto fnExactPutGlassSpec)

/-- 'laws.FnExactNextBurning', WHERE WHAT IT READS IS OF BULK AT MOST 1048576: true; the input reads as it did. -/
def fnExactNextBurningUptoRow : OpenClaim := { program := "ytgfiggmkncafiaa", sum := "fc638e24111523b9ad4ac8a3ff2282923101f0a099e87595a28c9de4692413de", func := "loop.example/g01187/laws.FnExactNextBurning", spec := "fnExactNextBurning", apart := false, narrowed := true }
def FnExactNextBurningUptoSaid : Prop := fnExactNextBurningUptoRow.holds Try.pinned (OpenSpec.upto fnExactNextBurningSpec)

/-- 'laws.FnExactLightRopes', WHERE WHAT IT READS IS OF BULK AT MOST 1048576: true; the input reads as it did. -/
def fnExactLightRopesUptoRow : OpenClaim := { program := "ytgfiggmkncafiaa", sum := "fc638e24111523b9ad4ac8a3ff2282923101f0a099e87595a28c9de4692413de", func := "loop.example/g01187/laws.FnExactLightRopes", spec := "fnExactLightRopes", apart := false, narrowed := true }
def FnExactLightRopesUptoSaid : Prop := fnExactLightRopesUptoRow.holds Try.pinned (OpenSpec.upto fnExactLightRopesSpec)

end Rows
end Go.Proofs.Ytgfiggmkncafiaa
