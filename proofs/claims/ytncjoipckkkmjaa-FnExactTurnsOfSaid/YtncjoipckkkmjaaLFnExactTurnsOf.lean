/- For all kits and plans TurnsOf of the program and of the reference answer alike; no condition. -/
import Derived.Test.YtncjoipckkkmjaaRowS
import Derived.Test.YtncjoipckkkmjaaQAll2
import Derived.Test.YtncjoipckkkmjaaPTurns
namespace Go.Proofs.Ytncjoipckkkmjaa.fnExactTurnsOf
open Go.ChangeShapes Go.WideShapes Go.ChangeAt Go.RowKit Go.Proofs.YtncjoipckkkmjaaW.PrintWords
set_option linter.unusedVariables false
theorem walk (k : Nat → Int) (lA : Option Addr) (lc : Nat) (l : List Int) (w : World) (rl : Kd.C (Kd.int .i64) w lA l.length l) (cl : l.length ≤ lc) : Calls Try.prog 12 #[A4 k, .slice lA l.length lc] w fun e w' => e = .returned (.bool true) ∧ Below w.heap.size w w' := by
  obtain ⟨m, h⟩ := turnsOf_law (k 0) (k 1) (k 2) (k 3) l
  exact (QAll.laws_FnExactTurnsOf.calls m _ _ _ _ _ _ _ true w rl cl h).mono fun e w' ⟨he, hb⟩ => ⟨he, hb⟩
set_option maxRecDepth 100000 in
theorem lifted (os : Os) (started : os.Started) (H : Type) (enc : TypeId × Value → H) :
    ReturnsInHanded {} Try.checked os 12 .any (Rows.fnExactTurnsOfSpec.pre6 enc Try.prog Try.f12 Rows.fnExactTurnsOfRow.domain false) (Rows.fnExactTurnsOfSpec.post enc Try.prog Try.f12 false true false false) :=
  law_lifted started own laidOut (by kernel_rfl) Try.func12 rfl
    (by intro ds h; match ds, h with | [_, _], _ => exact ⟨rfl, rfl, rfl⟩) (by kernel_rfl) rfl Try.underlying4
    (ChangeSpec.witness6 (enc := enc) (C := Try.checked) false ⟨#[], #[.agg #[.int .i64 0, .int .i64 0, .int .i64 0, .int .i64 0], .slice none 0 0], []⟩ 8 (by kernel_rfl) (by kernel_rfl) (by kernel_rfl) (by kernel_rfl))
    (fun W base args ds p hsz hval hA hlt hw => by
      obtain ⟨v0, v1, rfl⟩ := args2 hsz
      obtain ⟨k, rfl, bk⟩ := open_flat 4 Try.underlying3 (by kernel_rfl) (by kernel_rfl) (Or.inl ⟨_, Try.underlying24⟩) (hval 0 _ _ rfl rfl)
      obtain ⟨lA, lc, l, rfl, rl, cl, yl⟩ := open_slice_arg (j := 1) hA hw rfl rfl Try.underlying52 Try.underlying3 (by kernel_rfl) (by kernel_rfl) (hval 1 _ _ rfl rfl)
      exact walk k lA lc l W rl cl)
set_option maxRecDepth 100000 in
theorem over : Rows.fnExactTurnsOfRow.holds Try.pinned (OpenSpec.ofChange Rows.fnExactTurnsOfSpec) :=
  OpenClaim.holds_of_wide 12 Try.f12 rfl rfl rfl rfl rfl rfl rfl ⟨rfl, rfl, rfl, rfl, rfl⟩ rfl rfl rfl rfl rfl (by kernel_rfl) Try.func12 (by kernel_rfl)
    (of_decide_eq_true (by kernel_rfl)) (by unfold Func.isWrapper; first | (rw [if_pos (by decide +kernel)]; kernel_rfl) | (rw [if_neg (by decide +kernel)]; exact ⟨rfl, rfl⟩))
    (fun os started H enc _ => lifted os started H enc)
end Go.Proofs.Ytncjoipckkkmjaa.fnExactTurnsOf
namespace Go.Proofs.Ytncjoipckkkmjaa
/-- The row, under a short name, for the claim. -/
theorem fnExactTurnsOf_holds : Rows.FnExactTurnsOfSaid := fnExactTurnsOf.over
end Go.Proofs.Ytncjoipckkkmjaa
#print axioms Go.Proofs.Ytncjoipckkkmjaa.fnExactTurnsOf_holds
