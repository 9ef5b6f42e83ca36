/- For all lists of strings and separators JoinStrings of the program and of the reference answer alike; no condition. -/
import Derived.Test.YtidnebhdjkdofaaRowT
import Derived.Test.YtidnebhdjkdofaaQAll2
import Derived.Test.YtidnebhdjkdofaaPJoin
namespace Go.Proofs.Ytidnebhdjkdofaa.fnExactJoinStrings
open Go.ChangeShapes Go.WideShapes Go.ChangeAt Go.RowKit Go.Proofs.YtidnebhdjkdofaaW.PrintWords
set_option linter.unusedVariables false
theorem walk (lA : Option Addr) (lc : Nat) (l : List ByteArray) (s : ByteArray) (w : World) (rl : Kd.C Kd.string w lA l.length l) (cl : l.length ≤ lc) (ml : l.length ≤ maxLen) (sl : ∀ s ∈ l, s.size ≤ maxLen) : Calls Try.prog 3 #[.slice lA l.length lc, .string s] w fun e w' => e = .returned (.bool true) ∧ Below w.heap.size w w' := by
  obtain ⟨m, h⟩ := joinStrings_law l s ml sl
  exact (QAll.laws_FnExactJoinStrings.calls m _ _ _ _ true w rl cl h).mono fun e w' ⟨he, hb⟩ => ⟨he, hb⟩
set_option maxRecDepth 100000 in
theorem lifted (os : Os) (started : os.Started) (H : Type) (enc : TypeId × Value → H) :
    ReturnsInHanded {} Try.checked os 3 .any (Rows.fnExactJoinStringsSpec.pre6 enc Try.prog Try.f3 Rows.fnExactJoinStringsRow.domain false) (Rows.fnExactJoinStringsSpec.post enc Try.prog Try.f3 false true false false) :=
  law_lifted started own laidOut (by kernel_rfl) Try.func3 rfl
    (by intro ds h; match ds, h with | [_, _], _ => exact ⟨rfl, rfl, rfl⟩) (by kernel_rfl) rfl Try.underlying4
    (ChangeSpec.witness6 (enc := enc) (C := Try.checked) false ⟨#[], #[.slice none 0 0, .string ⟨#[]⟩], []⟩ 8 (by kernel_rfl) (by kernel_rfl) (by kernel_rfl) (by kernel_rfl))
    (fun W base args ds p hsz hval hA hlt hw => by
      obtain ⟨v0, v1, rfl⟩ := args2 hsz
      obtain ⟨lA, lc, l, rfl, rl, cl, ml, sl⟩ := open_strs_arg (j := 0) hA rfl rfl Try.underlying22 Try.underlying9 (by kernel_rfl) (hval 0 _ _ rfl rfl)
      obtain ⟨s, rfl, _⟩ := open_str_arg (j := 1) hA rfl rfl Try.underlying9 (hval 1 _ _ rfl rfl)
      exact walk lA lc l s W rl cl ml sl)
set_option maxRecDepth 100000 in
theorem over : Rows.fnExactJoinStringsRow.holds Try.pinned (OpenSpec.ofChange Rows.fnExactJoinStringsSpec) :=
  OpenClaim.holds_of_wide 3 Try.f3 rfl rfl rfl rfl rfl rfl rfl ⟨rfl, rfl, rfl, rfl, rfl⟩ rfl rfl rfl rfl rfl (by kernel_rfl) Try.func3 (by kernel_rfl)
    (of_decide_eq_true (by kernel_rfl)) (by unfold Func.isWrapper; first | (rw [if_pos (by decide +kernel)]; kernel_rfl) | (rw [if_neg (by decide +kernel)]; exact ⟨rfl, rfl⟩))
    (fun os started H enc _ => lifted os started H enc)
end Go.Proofs.Ytidnebhdjkdofaa.fnExactJoinStrings
namespace Go.Proofs.Ytidnebhdjkdofaa
/-- The row, under a short name, for the claim. -/
theorem fnExactJoinStrings_holds : Rows.FnExactJoinStringsSaid := fnExactJoinStrings.over
end Go.Proofs.Ytidnebhdjkdofaa
#print axioms Go.Proofs.Ytidnebhdjkdofaa.fnExactJoinStrings_holds
