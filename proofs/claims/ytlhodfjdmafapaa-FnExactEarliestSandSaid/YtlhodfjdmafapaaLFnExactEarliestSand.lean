/- For all kits and sands EarliestSand of the program and of the reference answer alike; no condition. -/
import Derived.Test.YtlhodfjdmafapaaRow
import Derived.Test.YtlhodfjdmafapaaQAll2
import Derived.Test.YtlhodfjdmafapaaPMetLaw
namespace Go.Proofs.Ytlhodfjdmafapaa.fnExactEarliestSand
open Go.ChangeShapes Go.WideShapes Go.ChangeAt Go.RowKit
set_option linter.unusedVariables false
theorem walk (k : Nat → Int) (s : Nat → Int) (bk : ∀ i, -9223372036854775808 ≤ k i ∧ k i ≤ 9223372036854775807) (bs : ∀ i, -9223372036854775808 ≤ s i ∧ s i ≤ 9223372036854775807) (w : World) : Calls Try.prog 4 #[A4 k, A4 s] w fun e w' => e = .returned (.bool true) ∧ Below w.heap.size w w' := by
  have h := earliestSand_law (k 0) (k 1) (k 2) (k 3) (s 0) (s 1) (s 2) (s 3)
  exact (QAll.laws_FnExactEarliestSand.calls _ _ _ _ _ _ _ _ true w h).mono fun e w' ⟨he, hb⟩ => ⟨he, hb⟩
set_option maxRecDepth 100000 in
theorem lifted (os : Os) (started : os.Started) (H : Type) (enc : TypeId × Value → H) :
    ReturnsInHanded {} Try.checked os 4 .any (Rows.fnExactEarliestSandSpec.pre6 enc Try.prog Try.f4 Rows.fnExactEarliestSandRow.domain false) (Rows.fnExactEarliestSandSpec.post enc Try.prog Try.f4 false true false false) :=
  law_lifted started own laidOut (by kernel_rfl) Try.func4 rfl
    (by intro ds h; match ds, h with | [_, _], _ => exact ⟨rfl, rfl, rfl⟩) (by kernel_rfl) rfl Try.underlying4
    (ChangeSpec.witness6 (enc := enc) (C := Try.checked) false ⟨#[], #[.agg #[.int .i64 0, .int .i64 0, .int .i64 0, .int .i64 0], .agg #[.int .i64 0, .int .i64 0, .int .i64 0, .int .i64 0]], []⟩ 8 (by kernel_rfl) (by kernel_rfl) (by kernel_rfl) (by kernel_rfl))
    (fun W base args ds p hsz hval hA hlt hw => by
      obtain ⟨v0, v1, rfl⟩ := args2 hsz
      obtain ⟨k, rfl, bk⟩ := open_flat 4 Try.underlying3 (by kernel_rfl) (by kernel_rfl) (Or.inl ⟨_, Try.underlying24⟩) (hval 0 _ _ rfl rfl)
      obtain ⟨s, rfl, bs⟩ := open_flat 4 Try.underlying3 (by kernel_rfl) (by kernel_rfl) (Or.inr ⟨_, _, Try.underlying22⟩) (hval 1 _ _ rfl rfl)
      exact walk k s bk bs W)
set_option maxRecDepth 100000 in
theorem over : Rows.fnExactEarliestSandRow.holds Try.pinned (OpenSpec.ofChange Rows.fnExactEarliestSandSpec) :=
  OpenClaim.holds_of_wide 4 Try.f4 rfl rfl rfl rfl rfl rfl rfl ⟨rfl, rfl, rfl, rfl, rfl⟩ rfl rfl rfl rfl rfl (by kernel_rfl) Try.func4 (by kernel_rfl)
    (of_decide_eq_true (by kernel_rfl)) (by unfold Func.isWrapper; first | (rw [if_pos (by decide +kernel)]; kernel_rfl) | (rw [if_neg (by decide +kernel)]; exact ⟨rfl, rfl⟩))
    (fun os started H enc _ => lifted os started H enc)
end Go.Proofs.Ytlhodfjdmafapaa.fnExactEarliestSand
namespace Go.Proofs.Ytlhodfjdmafapaa
/-- The row, under a short name, for the claim. -/
theorem fnExactEarliestSand_holds : Rows.FnExactEarliestSandSaid := fnExactEarliestSand.over
end Go.Proofs.Ytlhodfjdmafapaa
#print axioms Go.Proofs.Ytlhodfjdmafapaa.fnExactEarliestSand_holds
