/- For all kits CountMet of the program and of the reference answer alike; no condition. -/
import Derived.Test.YtlhodfjdmafapaaRow
import Derived.Test.YtlhodfjdmafapaaQAll1
import Derived.Test.YtlhodfjdmafapaaPMetLaw
namespace Go.Proofs.Ytlhodfjdmafapaa.fnExactCountMet
open Go.ChangeShapes Go.WideShapes Go.ChangeAt Go.RowKit
set_option linter.unusedVariables false
theorem walk (k : Nat → Int) (bk : ∀ i, -9223372036854775808 ≤ k i ∧ k i ≤ 9223372036854775807) (w : World) : Calls Try.prog 3 #[A4 k] w fun e w' => e = .returned (.bool true) ∧ Below w.heap.size w w' := by
  obtain ⟨m, h⟩ := countMet_law (k 0) (k 1) (k 2) (k 3)
  exact (QAll.laws_FnExactCountMet.calls m _ _ _ _ true w h).mono fun e w' ⟨he, hb⟩ => ⟨he, hb⟩
set_option maxRecDepth 100000 in
theorem lifted (os : Os) (started : os.Started) (H : Type) (enc : TypeId × Value → H) :
    ReturnsInHanded {} Try.checked os 3 .any (Rows.fnExactCountMetSpec.pre6 enc Try.prog Try.f3 Rows.fnExactCountMetRow.domain false) (Rows.fnExactCountMetSpec.post enc Try.prog Try.f3 false true false false) :=
  law_lifted started own laidOut (by kernel_rfl) Try.func3 rfl
    (by intro ds h; match ds, h with | [_], _ => exact ⟨rfl, rfl, rfl⟩) (by kernel_rfl) rfl Try.underlying4
    (ChangeSpec.witness6 (enc := enc) (C := Try.checked) false ⟨#[], #[.agg #[.int .i64 0, .int .i64 0, .int .i64 0, .int .i64 0]], []⟩ 8 (by kernel_rfl) (by kernel_rfl) (by kernel_rfl) (by kernel_rfl))
    (fun W base args ds p hsz hval hA hlt hw => by
      obtain ⟨v0, rfl⟩ := args1 hsz
      obtain ⟨k, rfl, bk⟩ := open_flat 4 Try.underlying3 (by kernel_rfl) (by kernel_rfl) (Or.inl ⟨_, Try.underlying24⟩) (hval 0 _ _ rfl rfl)
      exact walk k bk W)
set_option maxRecDepth 100000 in
theorem over : Rows.fnExactCountMetRow.holds Try.pinned (OpenSpec.ofChange Rows.fnExactCountMetSpec) :=
  OpenClaim.holds_of_wide 3 Try.f3 rfl rfl rfl rfl rfl rfl rfl ⟨rfl, rfl, rfl, rfl, rfl⟩ rfl rfl rfl rfl rfl (by kernel_rfl) Try.func3 (by kernel_rfl)
    (of_decide_eq_true (by kernel_rfl)) (by unfold Func.isWrapper; first | (rw [if_pos (by decide +kernel)]; kernel_rfl) | (rw [if_neg (by decide +kernel)]; exact ⟨rfl, rfl⟩))
    (fun os started H enc _ => lifted os started H enc)
end Go.Proofs.Ytlhodfjdmafapaa.fnExactCountMet
namespace Go.Proofs.Ytlhodfjdmafapaa
/-- The row, under a short name, for the claim. -/
theorem fnExactCountMet_holds : Rows.FnExactCountMetSaid := fnExactCountMet.over
end Go.Proofs.Ytlhodfjdmafapaa
#print axioms Go.Proofs.Ytlhodfjdmafapaa.fnExactCountMet_holds
