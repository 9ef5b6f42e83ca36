/- For all kits, sands and spans MeasuredFrom of the program and of the reference answer alike; no condition. -/
import Derived.Test.YtlhodfjdmafapaaRow
import Derived.Test.YtlhodfjdmafapaaQMf1
import Derived.Test.YtlhodfjdmafapaaPMeasL
namespace Go.Proofs.Ytlhodfjdmafapaa.fnExactMeasuredFrom
open Go.ChangeShapes Go.WideShapes Go.ChangeAt Go.RowKit
set_option linter.unusedVariables false
theorem walk (k : Nat → Int) (s : Nat → Int) (t : Int) (bk : ∀ i, -9223372036854775808 ≤ k i ∧ k i ≤ 9223372036854775807) (bs : ∀ i, -9223372036854775808 ≤ s i ∧ s i ≤ 9223372036854775807) (bt : -9223372036854775808 ≤ t ∧ t ≤ 9223372036854775807) (w : World) : Calls Try.prog 5 #[A4 k, A4 s, .int .i64 t] w fun e w' => e = .returned (.bool true) ∧ Below w.heap.size w w' := by
  have h := measuredFrom_law (k 0) (k 1) (k 2) (k 3) (s 0) (s 1) (s 2) (s 3) t
  exact (QMf.laws_FnExactMeasuredFrom.calls _ _ _ _ _ _ _ _ _ true w h).mono fun e w' ⟨he, hb⟩ => ⟨he, hb⟩
set_option maxRecDepth 100000 in
theorem lifted (os : Os) (started : os.Started) (H : Type) (enc : TypeId × Value → H) :
    ReturnsInHanded {} Try.checked os 5 .any (Rows.fnExactMeasuredFromSpec.pre6 enc Try.prog Try.f5 Rows.fnExactMeasuredFromRow.domain false) (Rows.fnExactMeasuredFromSpec.post enc Try.prog Try.f5 false true false false) :=
  law_lifted started own laidOut (by kernel_rfl) Try.func5 rfl
    (by intro ds h; match ds, h with | [_, _, _], _ => exact ⟨rfl, rfl, rfl⟩) (by kernel_rfl) rfl Try.underlying4
    (ChangeSpec.witness6 (enc := enc) (C := Try.checked) false ⟨#[], #[.agg #[.int .i64 0, .int .i64 0, .int .i64 0, .int .i64 0], .agg #[.int .i64 0, .int .i64 0, .int .i64 0, .int .i64 0], .int .i64 0], []⟩ 8 (by kernel_rfl) (by kernel_rfl) (by kernel_rfl) (by kernel_rfl))
    (fun W base args ds p hsz hval hA hlt hw => by
      obtain ⟨v0, v1, v2, rfl⟩ := args3 hsz
      obtain ⟨k, rfl, bk⟩ := open_flat 4 Try.underlying3 (by kernel_rfl) (by kernel_rfl) (Or.inl ⟨_, Try.underlying24⟩) (hval 0 _ _ rfl rfl)
      obtain ⟨s, rfl, bs⟩ := open_flat 4 Try.underlying3 (by kernel_rfl) (by kernel_rfl) (Or.inr ⟨_, _, Try.underlying22⟩) (hval 1 _ _ rfl rfl)
      obtain ⟨t, rfl, bt⟩ := open_i64 Try.underlying3 (hval 2 _ _ rfl rfl)
      exact walk k s t bk bs bt W)
set_option maxRecDepth 100000 in
theorem over : Rows.fnExactMeasuredFromRow.holds Try.pinned (OpenSpec.ofChange Rows.fnExactMeasuredFromSpec) :=
  OpenClaim.holds_of_wide 5 Try.f5 rfl rfl rfl rfl rfl rfl rfl ⟨rfl, rfl, rfl, rfl, rfl⟩ rfl rfl rfl rfl rfl (by kernel_rfl) Try.func5 (by kernel_rfl)
    (of_decide_eq_true (by kernel_rfl)) (by unfold Func.isWrapper; first | (rw [if_pos (by decide +kernel)]; kernel_rfl) | (rw [if_neg (by decide +kernel)]; exact ⟨rfl, rfl⟩))
    (fun os started H enc _ => lifted os started H enc)
end Go.Proofs.Ytlhodfjdmafapaa.fnExactMeasuredFrom
namespace Go.Proofs.Ytlhodfjdmafapaa
/-- The row, under a short name, for the claim. -/
theorem fnExactMeasuredFrom_holds : Rows.FnExactMeasuredFromSaid := fnExactMeasuredFrom.over
end Go.Proofs.Ytlhodfjdmafapaa
#print axioms Go.Proofs.Ytlhodfjdmafapaa.fnExactMeasuredFrom_holds
