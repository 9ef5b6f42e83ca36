/- For all kits AllGlasses of the program and of the reference answer alike; no condition. -/
import Derived.Test.YtgfiggmkncafiaaRow
import Derived.Deep.RegionHeld3
import Derived.Test.YtgfiggmkncafiaaExp
namespace Go.Proofs.Ytgfiggmkncafiaa.fnExactAllGlasses
open Go.ChangeShapes Go.WideShapes Go.ChangeAt Go.RowKit
set_option linter.unusedVariables false
theorem walk (k : Nat → Int) (bk : ∀ i, -9223372036854775808 ≤ k i ∧ k i ≤ 9223372036854775807) (w : World) : Calls Try.prog 11 #[A4 k] w fun e w' => e = .returned (.bool true) ∧ Below w.heap.size w w' := by
  go_enter Try.func11, Try.ntmps11
  go_wp2_with (first | (go_at_call 23; refine (toKit_any k _).mono ?_; rintro e w' ⟨rfl, hb⟩; have hB : Below w.heap.size w w' := Below.trans (by (repeat first | (with_reducible assumption) | (with_reducible exact Below.refl _ _) | ((with_reducible refine bl_alloc _ ?_ ?_); focus (first | (simp; done) | (simp; omega) | omega)) | ((with_reducible refine bl_set _ ?_ ?_); focus (first | (simp; done) | (simp; omega) | omega)) | (with_reducible refine Below.drew ?_) | (with_reducible refine bl_drewN _ ?_))) (hb.mono (by first | (simp; done) | (simp; omega) | omega)); obtain ⟨hc, hf⟩ := bcell hb; have hz := hb.size; (try simp at hz); (try have hy0 : w.heap.size < w'.heap.size := by omega); (try have hy1 : w.heap.size + 1 < w'.heap.size := by omega); (try have hy2 : w.heap.size + 1 + 1 < w'.heap.size := by omega); (try have hy3 : w.heap.size + 1 + 1 + 1 < w'.heap.size := by omega); clear hb) | (go_at_call 34; refine (specAllGlasses_any k _).mono ?_; rintro e w' ⟨rfl, hb⟩; have hB : Below w.heap.size w w' := Below.trans (by (repeat first | (with_reducible assumption) | (with_reducible exact Below.refl _ _) | ((with_reducible refine bl_alloc _ ?_ ?_); focus (first | (simp; done) | (simp; omega) | omega)) | ((with_reducible refine bl_set _ ?_ ?_); focus (first | (simp; done) | (simp; omega) | omega)) | (with_reducible refine Below.drew ?_) | (with_reducible refine bl_drewN _ ?_))) (hb.mono (by first | (simp; done) | (simp; omega) | omega)); obtain ⟨hc, hf⟩ := bcell hb; have hz := hb.size; (try simp at hz); (try have hy0 : w.heap.size < w'.heap.size := by omega); (try have hy1 : w.heap.size + 1 < w'.heap.size := by omega); (try have hy2 : w.heap.size + 1 + 1 < w'.heap.size := by omega); (try have hy3 : w.heap.size + 1 + 1 + 1 < w'.heap.size := by omega); clear hb) | (go_at_call 35; refine (AllGlasses_any k _).mono ?_; rintro e w' ⟨rfl, hb⟩; have hB : Below w.heap.size w w' := Below.trans (by (repeat first | (with_reducible assumption) | (with_reducible exact Below.refl _ _) | ((with_reducible refine bl_alloc _ ?_ ?_); focus (first | (simp; done) | (simp; omega) | omega)) | ((with_reducible refine bl_set _ ?_ ?_); focus (first | (simp; done) | (simp; omega) | omega)) | (with_reducible refine Below.drew ?_) | (with_reducible refine bl_drewN _ ?_))) (hb.mono (by first | (simp; done) | (simp; omega) | omega)); obtain ⟨hc, hf⟩ := bcell hb; have hz := hb.size; (try simp at hz); (try have hy0 : w.heap.size < w'.heap.size := by omega); (try have hy1 : w.heap.size + 1 < w'.heap.size := by omega); (try have hy2 : w.heap.size + 1 + 1 < w'.heap.size := by omega); (try have hy3 : w.heap.size + 1 + 1 + 1 < w'.heap.size := by omega); clear hb))
  all_goals (go_ret; exact ⟨rfl, by (repeat first | (with_reducible assumption) | (with_reducible exact Below.refl _ _) | ((with_reducible refine bl_alloc _ ?_ ?_); focus (first | (simp; done) | (simp; omega) | omega)) | ((with_reducible refine bl_set _ ?_ ?_); focus (first | (simp; done) | (simp; omega) | omega)) | (with_reducible refine Below.drew ?_) | (with_reducible refine bl_drewN _ ?_))⟩)
theorem lifted (os : Os) (started : os.Started) (H : Type) (enc : TypeId × Value → H) :
    ReturnsInHanded {} Try.checked os 11 .any (Rows.fnExactAllGlassesSpec.pre6 enc Try.prog Try.f11 Rows.fnExactAllGlassesRow.domain false) (Rows.fnExactAllGlassesSpec.post enc Try.prog Try.f11 false true false false) :=
  law_lifted started own laidOut (by kernel_rfl) Try.func11 rfl
    (by intro ds h; match ds, h with | [_], _ => exact ⟨rfl, rfl, rfl⟩) (by kernel_rfl) rfl Try.underlying4
    (ChangeSpec.witness6 (enc := enc) (C := Try.checked) false ⟨#[], #[.agg #[.int .i64 0, .int .i64 0, .int .i64 0, .int .i64 0]], []⟩ 8 (by kernel_rfl) (by kernel_rfl) (by kernel_rfl) (by kernel_rfl))
    (fun W base args ds p hsz hval hA hlt hw => by
      obtain ⟨v0, rfl⟩ := args1 hsz
      obtain ⟨k, rfl, bk⟩ := open_flat 4 Try.underlying3 (by kernel_rfl) (by kernel_rfl) (Or.inl ⟨_, Try.underlying36⟩) (hval 0 _ _ rfl rfl)
      exact walk k bk W)
theorem over : Rows.fnExactAllGlassesRow.holds Try.pinned (OpenSpec.ofChange Rows.fnExactAllGlassesSpec) :=
  OpenClaim.holds_of_wide 11 Try.f11 rfl rfl rfl rfl rfl rfl rfl ⟨rfl, rfl, rfl, rfl, rfl⟩ rfl rfl rfl rfl rfl (by kernel_rfl) Try.func11 (by kernel_rfl)
    (of_decide_eq_true (by kernel_rfl)) (by unfold Func.isWrapper; first | (rw [if_pos (by decide +kernel)]; kernel_rfl) | (rw [if_neg (by decide +kernel)]; exact ⟨rfl, rfl⟩))
    (fun os started H enc _ => lifted os started H enc)
end Go.Proofs.Ytgfiggmkncafiaa.fnExactAllGlasses
namespace Go.Proofs.Ytgfiggmkncafiaa
/-- The row, under a short name, for the claim. -/
theorem fnExactAllGlasses_holds : Rows.FnExactAllGlassesSaid := fnExactAllGlasses.over
end Go.Proofs.Ytgfiggmkncafiaa
#print axioms Go.Proofs.Ytgfiggmkncafiaa.fnExactAllGlasses_holds
