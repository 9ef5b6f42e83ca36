/- For all kits, sands and plans RunPlan of the program and of the reference answer alike; no condition. -/
import Derived.Test.YtohbmlhaaagfhaaRowS
import Derived.Test.YtohbmlhaaagfhaaRunPlanL
namespace Go.Proofs.Ytohbmlhaaagfhaa.fnExactRunPlan
open Go.ChangeShapes Go.WideShapes Go.ChangeAt Go.RowKit Go.Proofs.YtohbmlhaaagfhaaW.PrintWords
set_option linter.unusedVariables false
theorem walk (k : Nat → Int) (s : Nat → Int) (lA : Option Addr) (lc : Nat) (l : List Int) (w : World) (rl : Kd.C (Kd.int .i64) w lA l.length l) (cl : l.length ≤ lc) : Calls Try.prog 3 #[A4 k, A4 s, .slice lA l.length lc] w fun e w' => e = .returned (.bool true) ∧ Below w.heap.size w w' := by
  by_cases hl : l.length ≤ 1048576
  · exact lawRunPlan_main k s lA lc l w rl cl hl
  · have d1 : decide ((1048576 : Int) < (l.length : Int)) = true := decide_eq_true (by omega)
    have d2 : decide (1048576 < l.length) = true := decide_eq_true (by omega)
    clear rl cl hl
    go_enter Try.func3, Try.ntmps3
    go_wp2_with fail
    go_ret
    exact ⟨rfl, bl_alloc _ (by simp) (bl_alloc _ (Nat.le_refl _) (Below.refl _ _))⟩
set_option maxRecDepth 100000 in
theorem lifted (os : Os) (started : os.Started) (H : Type) (enc : TypeId × Value → H) :
    ReturnsInHanded {} Try.checked os 3 .any (Rows.fnExactRunPlanSpec.pre6 enc Try.prog Try.f3 Rows.fnExactRunPlanRow.domain false) (Rows.fnExactRunPlanSpec.post enc Try.prog Try.f3 false true false false) :=
  law_lifted started own laidOut (by kernel_rfl) Try.func3 rfl
    (by intro ds h; match ds, h with | [_, _, _], _ => exact ⟨rfl, rfl, rfl⟩) (by kernel_rfl) rfl Try.underlying4
    (ChangeSpec.witness6 (enc := enc) (C := Try.checked) false ⟨#[], #[.agg #[.int .i64 0, .int .i64 0, .int .i64 0, .int .i64 0], .agg #[.int .i64 0, .int .i64 0, .int .i64 0, .int .i64 0], .slice none 0 0], []⟩ 8 (by kernel_rfl) (by kernel_rfl) (by kernel_rfl) (by kernel_rfl))
    (fun W base args ds p hsz hval hA hlt hw => by
      obtain ⟨v0, v1, v2, rfl⟩ := args3 hsz
      obtain ⟨k, rfl, bk⟩ := open_flat 4 Try.underlying3 (by kernel_rfl) (by kernel_rfl) (Or.inl ⟨_, Try.underlying24⟩) (hval 0 _ _ rfl rfl)
      obtain ⟨s, rfl, bs⟩ := open_flat 4 Try.underlying3 (by kernel_rfl) (by kernel_rfl) (Or.inr ⟨_, _, Try.underlying22⟩) (hval 1 _ _ rfl rfl)
      obtain ⟨lA, lc, l, rfl, rl, cl, yl⟩ := open_slice_arg (j := 2) hA hw rfl rfl Try.underlying25 Try.underlying3 (by kernel_rfl) (by kernel_rfl) (hval 2 _ _ rfl rfl)
      exact walk k s lA lc l W rl cl)
set_option maxRecDepth 100000 in
theorem over : Rows.fnExactRunPlanRow.holds Try.pinned (OpenSpec.ofChange Rows.fnExactRunPlanSpec) :=
  OpenClaim.holds_of_wide 3 Try.f3 rfl rfl rfl rfl rfl rfl rfl ⟨rfl, rfl, rfl, rfl, rfl⟩ rfl rfl rfl rfl rfl (by kernel_rfl) Try.func3 (by kernel_rfl)
    (of_decide_eq_true (by kernel_rfl)) (by unfold Func.isWrapper; first | (rw [if_pos (by decide +kernel)]; kernel_rfl) | (rw [if_neg (by decide +kernel)]; exact ⟨rfl, rfl⟩))
    (fun os started H enc _ => lifted os started H enc)
end Go.Proofs.Ytohbmlhaaagfhaa.fnExactRunPlan
namespace Go.Proofs.Ytohbmlhaaagfhaa
/-- The row, under a short name, for the claim. -/
theorem fnExactRunPlan_holds : Rows.FnExactRunPlanSaid := fnExactRunPlan.over
end Go.Proofs.Ytohbmlhaaagfhaa
#print axioms Go.Proofs.Ytohbmlhaaagfhaa.fnExactRunPlan_holds
