/- For all ropes and times CountRopePlans of the program and of the reference answer alike; no condition. -/
import Derived.Test.YtdbnajaimodnmaaRow
import Derived.Test.YtdbnajaimodnmaaQLw1
import Derived.Test.YtdbnajaimodnmaaEachV
namespace Go.Proofs.Ytdbnajaimodnmaa.fnExactCountRopePlans
open Go.ChangeShapes Go.WideShapes Go.ChangeAt Go.RowKit
set_option linter.unusedVariables false
theorem walk (f : Nat → Int) (t : Int) (bf : ∀ i, -9223372036854775808 ≤ f i ∧ f i ≤ 9223372036854775807) (bt : -9223372036854775808 ≤ t ∧ t ≤ 9223372036854775807) (w : World) : Calls Try.prog 6 #[A6 f, .int .i64 t] w fun e w' => e = .returned (.bool true) ∧ Below w.heap.size w w' := by
  have h := countPlans_law (f 0) (f 1) (f 2) (f 3) (f 4) (f 5) t
  exact (QLw.laws_FnExactCountRopePlans.calls _ _ _ _ _ _ _ true w h).mono fun e w' ⟨he, hb⟩ => ⟨he, hb⟩
set_option maxRecDepth 100000 in
theorem lifted (os : Os) (started : os.Started) (H : Type) (enc : TypeId × Value → H) :
    ReturnsInHanded {} Try.checked os 6 .any (Rows.fnExactCountRopePlansSpec.pre6 enc Try.prog Try.f6 Rows.fnExactCountRopePlansRow.domain false) (Rows.fnExactCountRopePlansSpec.post enc Try.prog Try.f6 false true false false) :=
  law_lifted started own laidOut (by kernel_rfl) Try.func6 rfl
    (by intro ds h; match ds, h with | [_, _], _ => exact ⟨rfl, rfl, rfl⟩) (by kernel_rfl) rfl Try.underlying4
    (ChangeSpec.witness6 (enc := enc) (C := Try.checked) false ⟨#[], #[.agg #[.int .i64 0, .int .i64 0, .int .i64 0, .int .i64 0, .int .i64 0, .int .i64 0], .int .i64 0], []⟩ 8 (by kernel_rfl) (by kernel_rfl) (by kernel_rfl) (by kernel_rfl))
    (fun W base args ds p hsz hval hA hlt hw => by
      obtain ⟨v0, v1, rfl⟩ := args2 hsz
      obtain ⟨f, rfl, bf⟩ := open_flat 6 Try.underlying3 (by kernel_rfl) (by kernel_rfl) (Or.inl ⟨_, Try.underlying38⟩) (hval 0 _ _ rfl rfl)
      obtain ⟨t, rfl, bt⟩ := open_i64 Try.underlying3 (hval 1 _ _ rfl rfl)
      exact walk f t bf bt W)
set_option maxRecDepth 100000 in
theorem over : Rows.fnExactCountRopePlansRow.holds Try.pinned (OpenSpec.ofChange Rows.fnExactCountRopePlansSpec) :=
  OpenClaim.holds_of_wide 6 Try.f6 rfl rfl rfl rfl rfl rfl rfl ⟨rfl, rfl, rfl, rfl, rfl⟩ rfl rfl rfl rfl rfl (by kernel_rfl) Try.func6 (by kernel_rfl)
    (of_decide_eq_true (by kernel_rfl)) (by unfold Func.isWrapper; first | (rw [if_pos (by decide +kernel)]; kernel_rfl) | (rw [if_neg (by decide +kernel)]; exact ⟨rfl, rfl⟩))
    (fun os started H enc _ => lifted os started H enc)
end Go.Proofs.Ytdbnajaimodnmaa.fnExactCountRopePlans
namespace Go.Proofs.Ytdbnajaimodnmaa
/-- The row, under a short name, for the claim. -/
theorem fnExactCountRopePlans_holds : Rows.FnExactCountRopePlansSaid := fnExactCountRopePlans.over
end Go.Proofs.Ytdbnajaimodnmaa
#print axioms Go.Proofs.Ytdbnajaimodnmaa.fnExactCountRopePlans_holds
