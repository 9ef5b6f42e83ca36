/- For all kits, sands and plans RunsHowFar of the program and of the reference answer alike; no condition. -/
import Derived.Test.YtncjoipckkkmjaaRowS
import Derived.Test.YtncjoipckkkmjaaQAll4
import Derived.Test.YtncjoipckkkmjaaPRuns
namespace Go.Proofs.Ytncjoipckkkmjaa.fnExactRunsHowFar
open Go.ChangeShapes Go.WideShapes Go.ChangeAt Go.RowKit Go.Proofs.YtncjoipckkkmjaaW.PrintWords
set_option linter.unusedVariables false
theorem walk (k : Nat → Int) (s : Nat → Int) (lA : Option Addr) (lc : Nat) (l : List Int) (w : World) (rl : Kd.C (Kd.int .i64) w lA l.length l) (cl : l.length ≤ lc) : Calls Try.prog 13 #[A4 k, A4 s, .slice lA l.length lc] w fun e w' => e = .returned (.bool true) ∧ Below w.heap.size w w' := by
  obtain ⟨m, h⟩ := runsHowFar_law (k 0) (k 1) (k 2) (k 3) (s 0) (s 1) (s 2) (s 3) l
  exact (QAll.laws_FnExactRunsHowFar.calls m _ _ _ _ _ _ _ _ _ _ _ true w rl cl h).mono fun e w' ⟨he, hb⟩ => ⟨he, hb⟩
set_option maxRecDepth 100000 in
theorem lifted (os : Os) (started : os.Started) (H : Type) (enc : TypeId × Value → H) :
    ReturnsInHanded {} Try.checked os 13 .any (Rows.fnExactRunsHowFarSpec.pre6 enc Try.prog Try.f13 Rows.fnExactRunsHowFarRow.domain false) (Rows.fnExactRunsHowFarSpec.post enc Try.prog Try.f13 false true false false) :=
  law_lifted started own laidOut (by kernel_rfl) Try.func13 rfl
    (by intro ds h; match ds, h with | [_, _, _], _ => exact ⟨rfl, rfl, rfl⟩) (by kernel_rfl) rfl Try.underlying4
    (ChangeSpec.witness6 (enc := enc) (C := Try.checked) false ⟨#[], #[.agg #[.int .i64 0, .int .i64 0, .int .i64 0, .int .i64 0], .agg #[.int .i64 0, .int .i64 0, .int .i64 0, .int .i64 0], .slice none 0 0], []⟩ 8 (by kernel_rfl) (by kernel_rfl) (by kernel_rfl) (by kernel_rfl))
    (fun W base args ds p hsz hval hA hlt hw => by
      obtain ⟨v0, v1, v2, rfl⟩ := args3 hsz
      obtain ⟨k, rfl, bk⟩ := open_flat 4 Try.underlying3 (by kernel_rfl) (by kernel_rfl) (Or.inl ⟨_, Try.underlying24⟩) (hval 0 _ _ rfl rfl)
      obtain ⟨s, rfl, bs⟩ := open_flat 4 Try.underlying3 (by kernel_rfl) (by kernel_rfl) (Or.inr ⟨_, _, Try.underlying22⟩) (hval 1 _ _ rfl rfl)
      obtain ⟨lA, lc, l, rfl, rl, cl, yl⟩ := open_slice_arg (j := 2) hA hw rfl rfl Try.underlying52 Try.underlying3 (by kernel_rfl) (by kernel_rfl) (hval 2 _ _ rfl rfl)
      exact walk k s lA lc l W rl cl)
set_option maxRecDepth 100000 in
theorem over : Rows.fnExactRunsHowFarRow.holds Try.pinned (OpenSpec.ofChange Rows.fnExactRunsHowFarSpec) :=
  OpenClaim.holds_of_wide 13 Try.f13 rfl rfl rfl rfl rfl rfl rfl ⟨rfl, rfl, rfl, rfl, rfl⟩ rfl rfl rfl rfl rfl (by kernel_rfl) Try.func13 (by kernel_rfl)
    (of_decide_eq_true (by kernel_rfl)) (by unfold Func.isWrapper; first | (rw [if_pos (by decide +kernel)]; kernel_rfl) | (rw [if_neg (by decide +kernel)]; exact ⟨rfl, rfl⟩))
    (fun os started H enc _ => lifted os started H enc)
end Go.Proofs.Ytncjoipckkkmjaa.fnExactRunsHowFar
namespace Go.Proofs.Ytncjoipckkkmjaa
/-- The row, under a short name, for the claim. -/
theorem fnExactRunsHowFar_holds : Rows.FnExactRunsHowFarSaid := fnExactRunsHowFar.over
end Go.Proofs.Ytncjoipckkkmjaa
#print axioms Go.Proofs.Ytncjoipckkkmjaa.fnExactRunsHowFar_holds
