/- For all kits, sands, plans and times MomentOf of the program and of the reference answer alike; no condition. -/
import Derived.Test.YtekbfekghheejaaRowS
import Derived.Test.YtekbfekghheejaaQAll5
import Derived.Test.YtekbfekghheejaaPMoment
namespace Go.Proofs.Ytekbfekghheejaa.fnExactMomentOf
open Go.ChangeShapes Go.WideShapes Go.ChangeAt Go.RowKit Go.Proofs.YtekbfekghheejaaW.PrintWords
set_option linter.unusedVariables false
theorem walk (k : Nat → Int) (s : Nat → Int) (lA : Option Addr) (lc : Nat) (l : List Int) (n : Int) (w : World) (rl : Kd.C (Kd.int .i64) w lA l.length l) (cl : l.length ≤ lc) : Calls Try.prog 6 #[A4 k, A4 s, .slice lA l.length lc, .int .i64 n] w fun e w' => e = .returned (.bool true) ∧ Below w.heap.size w w' := by
  obtain ⟨m, h⟩ := momentOf_law (k 0) (k 1) (k 2) (k 3) (s 0) (s 1) (s 2) (s 3) l n
  exact (QAll.laws_FnExactMomentOf.calls m _ _ _ _ _ _ _ _ _ _ _ _ true w rl cl h).mono fun e w' ⟨he, hb⟩ => ⟨he, hb⟩
set_option maxRecDepth 100000 in
theorem lifted (os : Os) (started : os.Started) (H : Type) (enc : TypeId × Value → H) :
    ReturnsInHanded {} Try.checked os 6 .any (Rows.fnExactMomentOfSpec.pre6 enc Try.prog Try.f6 Rows.fnExactMomentOfRow.domain false) (Rows.fnExactMomentOfSpec.post enc Try.prog Try.f6 false true false false) :=
  law_lifted started own laidOut (by kernel_rfl) Try.func6 rfl
    (by intro ds h; match ds, h with | [_, _, _, _], _ => exact ⟨rfl, rfl, rfl⟩) (by kernel_rfl) rfl Try.underlying4
    (ChangeSpec.witness6 (enc := enc) (C := Try.checked) false ⟨#[], #[.agg #[.int .i64 0, .int .i64 0, .int .i64 0, .int .i64 0], .agg #[.int .i64 0, .int .i64 0, .int .i64 0, .int .i64 0], .slice none 0 0, .int .i64 0], []⟩ 8 (by kernel_rfl) (by kernel_rfl) (by kernel_rfl) (by kernel_rfl))
    (fun W base args ds p hsz hval hA hlt hw => by
      obtain ⟨v0, v1, v2, v3, rfl⟩ := args4 hsz
      obtain ⟨k, rfl, bk⟩ := open_flat 4 Try.underlying3 (by kernel_rfl) (by kernel_rfl) (Or.inl ⟨_, Try.underlying24⟩) (hval 0 _ _ rfl rfl)
      obtain ⟨s, rfl, bs⟩ := open_flat 4 Try.underlying3 (by kernel_rfl) (by kernel_rfl) (Or.inr ⟨_, _, Try.underlying22⟩) (hval 1 _ _ rfl rfl)
      obtain ⟨lA, lc, l, rfl, rl, cl, yl⟩ := open_slice_arg (j := 2) hA hw rfl rfl Try.underlying25 Try.underlying3 (by kernel_rfl) (by kernel_rfl) (hval 2 _ _ rfl rfl)
      obtain ⟨n, rfl, bn⟩ := open_i64 Try.underlying3 (hval 3 _ _ rfl rfl)
      exact walk k s lA lc l n W rl cl)
set_option maxRecDepth 100000 in
theorem over : Rows.fnExactMomentOfRow.holds Try.pinned (OpenSpec.ofChange Rows.fnExactMomentOfSpec) :=
  OpenClaim.holds_of_wide 6 Try.f6 rfl rfl rfl rfl rfl rfl rfl ⟨rfl, rfl, rfl, rfl, rfl⟩ rfl rfl rfl rfl rfl (by kernel_rfl) Try.func6 (by kernel_rfl)
    (of_decide_eq_true (by kernel_rfl)) (by unfold Func.isWrapper; first | (rw [if_pos (by decide +kernel)]; kernel_rfl) | (rw [if_neg (by decide +kernel)]; exact ⟨rfl, rfl⟩))
    (fun os started H enc _ => lifted os started H enc)
end Go.Proofs.Ytekbfekghheejaa.fnExactMomentOf
namespace Go.Proofs.Ytekbfekghheejaa
/-- The row, under a short name, for the claim. -/
theorem fnExactMomentOf_holds : Rows.FnExactMomentOfSaid := fnExactMomentOf.over
end Go.Proofs.Ytekbfekghheejaa
#print axioms Go.Proofs.Ytekbfekghheejaa.fnExactMomentOf_holds
