/- Contract: a kit is narrow. No statement of the seat is proved here. -/
import Derived.Test.YtlhodfjdmafapaaSets
import Derived.Test.YtlhodfjdmafapaaPIds
namespace Go.Proofs.Ytlhodfjdmafapaa
open Go.RowKit Go.Maps Go.Proofs.YtlhodfjdmafapaaW.PrintWords Go.Proofs.YtlhodfjdmafapaaW.PrintLast Go.Proofs.Ytlhodfjdmafapaa.QIm
set_option linter.unusedVariables false
set_option linter.unusedSimpArgs false
def narB (k s : Nat → Int) : Bool := (isKitB k && isSandB k s) && decide (prodOf k ≤ 3000)
theorem nar_any (k s : Nat → Int) (b : Bool) (h : narB k s = b) (w : World) : Calls Try.prog 46 #[A4 k, A4 s] w fun e w' => e = .returned (.bool b) ∧ Below w.heap.size w w' := by
  refine impl_isNarrow.calls (k 0) (k 1) (k 2) (k 3) (s 0) (s 1) (s 2) (s 3) b w ?_
  have e1 : xAreSand.f (k 0) (k 1) (k 2) (k 3) (s 0) (s 1) (s 2) (s 3) = some (isKitB k && isSandB k s) := rfl
  have e2 : xProduct.f (k 0) (k 1) (k 2) (k 3) = some (prodOf k) := rfl
  unfold impl_isNarrow.f
  rw [e1, Option.bind_some]
  unfold narB at h
  by_cases c : (isKitB k && isSandB k s) = true
  · rw [if_pos c, e2, Option.bind_some]
    rw [c, Bool.true_and] at h
    rw [h]
  · rw [if_neg c]
    rw [show (isKitB k && isSandB k s) = false by simpa using c, Bool.false_and] at h
    rw [h]
theorem nar_parts {k s : Nat → Int} (h : narB k s = true) : isKitB k = true ∧ isSandB k s = true ∧ prodT k ≤ 3000 := by
  unfold narB at h
  simp only [Bool.and_eq_true, decide_eq_true_eq] at h
  exact ⟨h.1.1, h.1.2, by rw [← (prod_is (kit_bounds h.1.1)).1]; exact h.2⟩
end Go.Proofs.Ytlhodfjdmafapaa
