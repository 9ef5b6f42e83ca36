/- For all kits SortKit of the program and of the reference answer alike; no condition. -/
import Derived.Test.YtohbmlhaaagfhaaRow
import Derived.Test.YtohbmlhaaagfhaaSortS
namespace Go.Proofs.Ytohbmlhaaagfhaa.fnExactSortKit
open Go.ChangeShapes Go.WideShapes Go.ChangeAt Go.RowKit
set_option linter.unusedVariables false
set_option maxRecDepth 100000 in
theorem lifted (os : Os) (started : os.Started) (H : Type) (enc : TypeId × Value → H) :
    ReturnsInHanded {} Try.checked os 5 .any (Rows.fnExactSortKitSpec.pre6 enc Try.prog Try.f5 Rows.fnExactSortKitRow.domain false) (Rows.fnExactSortKitSpec.post enc Try.prog Try.f5 false true false false) :=
  law_lifted started own laidOut (by kernel_rfl) Try.func5 rfl
    (by intro ds h; match ds, h with | [_], _ => exact ⟨rfl, rfl, rfl⟩) (by kernel_rfl) rfl Try.underlying4
    (ChangeSpec.witness6 (enc := enc) (C := Try.checked) false ⟨#[], #[.agg #[.int .i64 0, .int .i64 0, .int .i64 0, .int .i64 0]], []⟩ 8 (by kernel_rfl) (by kernel_rfl) (by kernel_rfl) (by kernel_rfl))
    (fun W base args ds p hsz hval hA hlt hw => by
      obtain ⟨v0, rfl⟩ := args1 hsz
      obtain ⟨k, rfl, bk⟩ := open_flat 4 Try.underlying3 (by kernel_rfl) (by kernel_rfl) (Or.inl ⟨_, Try.underlying24⟩) (hval 0 _ _ rfl rfl)
      exact lawSort_any k W)
set_option maxRecDepth 100000 in
theorem over : Rows.fnExactSortKitRow.holds Try.pinned (OpenSpec.ofChange Rows.fnExactSortKitSpec) :=
  OpenClaim.holds_of_wide 5 Try.f5 rfl rfl rfl rfl rfl rfl rfl ⟨rfl, rfl, rfl, rfl, rfl⟩ rfl rfl rfl rfl rfl (by kernel_rfl) Try.func5 (by kernel_rfl)
    (of_decide_eq_true (by kernel_rfl)) (by unfold Func.isWrapper; first | (rw [if_pos (by decide +kernel)]; kernel_rfl) | (rw [if_neg (by decide +kernel)]; exact ⟨rfl, rfl⟩))
    (fun os started H enc _ => lifted os started H enc)
end Go.Proofs.Ytohbmlhaaagfhaa.fnExactSortKit
namespace Go.Proofs.Ytohbmlhaaagfhaa
/-- The row, under a short name, for the claim. -/
theorem fnExactSortKit_holds : Rows.FnExactSortKitSaid := fnExactSortKit.over
end Go.Proofs.Ytohbmlhaaagfhaa
#print axioms Go.Proofs.Ytohbmlhaaagfhaa.fnExactSortKit_holds
