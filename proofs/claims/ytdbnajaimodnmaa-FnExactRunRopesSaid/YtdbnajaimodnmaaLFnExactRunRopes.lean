/- For all ropes and rope plans RunRopes of the program and of the reference answer alike; no condition. -/
import Derived.Test.YtdbnajaimodnmaaRowA
import Derived.Test.YtdbnajaimodnmaaRunRopesL
namespace Go.Proofs.Ytdbnajaimodnmaa.fnExactRunRopes
open Go.ChangeShapes Go.WideShapes Go.ChangeAt Go.RowKit Go.Proofs.YtdbnajaimodnmaaW.PrintWords
set_option linter.unusedVariables false
theorem walk (f : Nat → Int) (lA : Option Addr) (lc : Nat) (l : List QRo.S36) (w : World) (rl : Kd.C QRo.k36 w lA l.length l) (cl : l.length ≤ lc) (yl : l.length * 24 ≤ 140737488351232) : Calls Try.prog 4 #[A6 f, .slice lA l.length lc] w fun e w' => e = .returned (.bool true) ∧ Below w.heap.size w w' := by
  by_cases hl : l.length ≤ 1048576
  · exact lawRunRopes_main f lA lc l w rl cl hl
  · exact lawRunRopes_far f lA lc l w rl cl (by omega) (by omega)
set_option maxRecDepth 100000 in
theorem lifted (os : Os) (started : os.Started) (H : Type) (enc : TypeId × Value → H) :
    ReturnsInHanded {} Try.checked os 4 .any (Rows.fnExactRunRopesSpec.pre6 enc Try.prog Try.f4 Rows.fnExactRunRopesRow.domain false) (Rows.fnExactRunRopesSpec.post enc Try.prog Try.f4 false true false false) :=
  law_lifted started own laidOut (by kernel_rfl) Try.func4 rfl
    (by intro ds h; match ds, h with | [_, _], _ => exact ⟨rfl, rfl, rfl⟩) (by kernel_rfl) rfl Try.underlying4
    (ChangeSpec.witness6 (enc := enc) (C := Try.checked) false ⟨#[], #[.agg #[.int .i64 0, .int .i64 0, .int .i64 0, .int .i64 0, .int .i64 0, .int .i64 0], .slice none 0 0], []⟩ 8 (by kernel_rfl) (by kernel_rfl) (by kernel_rfl) (by kernel_rfl))
    (fun W base args ds p hsz hval hA hlt hw => by
      obtain ⟨v0, v1, rfl⟩ := args2 hsz
      obtain ⟨f, rfl, bf⟩ := open_flat 6 Try.underlying3 (by kernel_rfl) (by kernel_rfl) (Or.inl ⟨_, Try.underlying38⟩) (hval 0 _ _ rfl rfl)
      obtain ⟨lA, lc, l, rfl, rl, cl, yl⟩ := open_arr3s_arg (j := 1) hA hw rfl rfl Try.underlying39 Try.underlying36 Try.underlying3 (by kernel_rfl) (by kernel_rfl) (by kernel_rfl) (hval 1 _ _ rfl rfl)
      exact walk f lA lc l W rl cl yl)
set_option maxRecDepth 100000 in
theorem over : Rows.fnExactRunRopesRow.holds Try.pinned (OpenSpec.ofChange Rows.fnExactRunRopesSpec) :=
  OpenClaim.holds_of_wide 4 Try.f4 rfl rfl rfl rfl rfl rfl rfl ⟨rfl, rfl, rfl, rfl, rfl⟩ rfl rfl rfl rfl rfl (by kernel_rfl) Try.func4 (by kernel_rfl)
    (of_decide_eq_true (by kernel_rfl)) (by unfold Func.isWrapper; first | (rw [if_pos (by decide +kernel)]; kernel_rfl) | (rw [if_neg (by decide +kernel)]; exact ⟨rfl, rfl⟩))
    (fun os started H enc _ => lifted os started H enc)
end Go.Proofs.Ytdbnajaimodnmaa.fnExactRunRopes
namespace Go.Proofs.Ytdbnajaimodnmaa
/-- The row, under a short name, for the claim. -/
theorem fnExactRunRopes_holds : Rows.FnExactRunRopesSaid := fnExactRunRopes.over
end Go.Proofs.Ytdbnajaimodnmaa
#print axioms Go.Proofs.Ytdbnajaimodnmaa.fnExactRunRopes_holds
