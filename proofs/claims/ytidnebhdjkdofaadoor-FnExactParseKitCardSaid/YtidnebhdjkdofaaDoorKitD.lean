/- Contracts of the small functions on kits (Door seat). No statement of the seat is proved here. -/
import Derived.Test.YtidnebhdjkdofaaDoorProg
import Derived.Test.YtidnebhdjkdofaaDoorBase
import Derived.BigQuiet
import Derived.Deep.QuietTactic
namespace Go.Proofs.YtidnebhdjkdofaaDoor
open Go.RowKit
set_option linter.unusedVariables false

theorem within_eq (n lo hi : Int) (w : World) : Calls Tryd.prog 45 #[.int .i64 n, .int .i64 lo, .int .i64 hi] w fun e w' => e = .returned (.bool (inB lo hi n)) ∧ w = w' := by
  go_enter Tryd.func45, Tryd.ntmps45
  go_wp2
  · go_ret
    exact ⟨by rw [inB_t ‹_›]; rfl, rfl⟩
  · go_ret
    exact ⟨by rw [inB_f ‹_›]; rfl, rfl⟩

theorem l1In_eq (n lo hi : Int) (w : World) : Calls Tryd.prog 43 #[.int .i64 n, .int .i64 lo, .int .i64 hi] w fun e w' => e = .returned (.bool (inB lo hi n)) ∧ w = w' := by
  go_enter Tryd.func43, Tryd.ntmps43
  go_wp2
  · go_ret
    exact ⟨by rw [inB_t ‹_›]; rfl, rfl⟩
  · go_ret
    exact ⟨by rw [inB_f ‹_›]; rfl, rfl⟩

theorem toIntA4_any (g : Nat → Int) (w : World) : Calls Tryd.prog 65 #[A4 g] w fun e w' => e = .returned (A4 g) ∧ Below w.heap.size w w' := by
  go_enter Tryd.func65, Tryd.ntmps65
  go_wp2
  refine wp_loop_rounds 5 ?_
  go_wp2_with (first | (rw [rounds_succ]))
  refine bodyPost_ret (v := A4 g) (by simp [results, Tryd.results65, go_sem]) rfl ⟨rfl, by (repeat first | (with_reducible assumption) | (with_reducible exact Below.refl _ _) | ((with_reducible refine bl_alloc _ ?_ ?_); focus (first | (simp; done) | (simp; omega) | omega)) | ((with_reducible refine bl_set _ ?_ ?_); focus (first | (simp; done) | (simp; omega) | omega)) | (with_reducible refine Below.drew ?_) | (with_reducible refine bl_drewN _ ?_))⟩

theorem toKit_any (g : Nat → Int) (w : World) : Calls Tryd.prog 38 #[A4 g] w fun e w' => e = .returned (A4 g) ∧ Below w.heap.size w w' := by
  go_enter Tryd.func38, Tryd.ntmps38
  go_wp2_with (first | (go_at_call 65; refine (toIntA4_any g _).mono ?_; rintro e w' ⟨rfl, hb⟩; have hB : Below w.heap.size w w' := Below.trans (by (repeat first | (with_reducible assumption) | (with_reducible exact Below.refl _ _) | ((with_reducible refine bl_alloc _ ?_ ?_); focus (first | (simp; done) | (simp; omega) | omega)) | ((with_reducible refine bl_set _ ?_ ?_); focus (first | (simp; done) | (simp; omega) | omega)) | (with_reducible refine Below.drew ?_) | (with_reducible refine bl_drewN _ ?_))) (hb.mono (by first | (simp; done) | (simp; omega) | omega)); obtain ⟨hc, hf⟩ := bcell hb; have hz := hb.size; (try simp at hz); (try have hy0 : w.heap.size < w'.heap.size := by omega); (try have hy1 : w.heap.size + 1 < w'.heap.size := by omega); (try have hy2 : w.heap.size + 1 + 1 < w'.heap.size := by omega); (try have hy3 : w.heap.size + 1 + 1 + 1 < w'.heap.size := by omega); clear hb))
  refine bodyPost_ret (v := A4 g) (by simp [results, Tryd.results38, go_sem, hc]) rfl ⟨rfl, by (repeat first | (with_reducible assumption) | (with_reducible exact Below.refl _ _) | ((with_reducible refine bl_alloc _ ?_ ?_); focus (first | (simp; done) | (simp; omega) | omega)) | ((with_reducible refine bl_set _ ?_ ?_); focus (first | (simp; done) | (simp; omega) | omega)) | (with_reducible refine Below.drew ?_) | (with_reducible refine bl_drewN _ ?_))⟩

theorem isKit_any (g : Nat → Int) (w : World) : Calls Tryd.prog 66 #[A4 g] w fun e w' => e = .returned (.bool (isKitB g)) ∧ Below w.heap.size w w' := by
  have i0 : ∀ w : World, (Instr.index 45 (A4 g) (.int .i64 0)).run Tryd.prog w = .ok (.int .i64 (g 0)) w := fun _ => by kernel_rfl
  have i1 : ∀ w : World, (Instr.index 45 (A4 g) (.int .i64 1)).run Tryd.prog w = .ok (.int .i64 (g 1)) w := fun _ => by kernel_rfl
  have i2 : ∀ w : World, (Instr.index 45 (A4 g) (.int .i64 2)).run Tryd.prog w = .ok (.int .i64 (g 2)) w := fun _ => by kernel_rfl
  have i3 : ∀ w : World, (Instr.index 45 (A4 g) (.int .i64 3)).run Tryd.prog w = .ok (.int .i64 (g 3)) w := fun _ => by kernel_rfl
  go_enter Tryd.func66, Tryd.ntmps66
  go_wp2_with fail
  refine wp_loop_rounds 5 ?_
  go_wp2_with (first | (rw [rounds_succ]) | (go_at_call 45; refine (within_eq _ _ _ _).mono ?_; rintro e w' ⟨rfl, rfl⟩))
  all_goals (go_ret; exact ⟨ret_bool (by simp_all [isKitB]), by (repeat first | (with_reducible assumption) | (with_reducible exact Below.refl _ _) | ((with_reducible refine bl_alloc _ ?_ ?_); focus (first | (simp; done) | (simp; omega) | omega)) | ((with_reducible refine bl_set _ ?_ ?_); focus (first | (simp; done) | (simp; omega) | omega)) | (with_reducible refine Below.drew ?_) | (with_reducible refine bl_drewN _ ?_))⟩)

theorem l2Kit_any (g : Nat → Int) (w : World) : Calls Tryd.prog 63 #[A4 g] w fun e w' => e = .returned (.bool (isKitB g)) ∧ Below w.heap.size w w' := by
  go_enter Tryd.func63, Tryd.ntmps63
  go_wp2_with fail
  refine wp_loop_rounds 5 ?_
  go_wp2_with (first | (rw [rounds_succ]) | (go_at_call 43; refine (l1In_eq _ _ _ _).mono ?_; rintro e w' ⟨rfl, rfl⟩))
  all_goals (go_ret; exact ⟨ret_bool (by simp_all [isKitB]), by (repeat first | (with_reducible assumption) | (with_reducible exact Below.refl _ _) | ((with_reducible refine bl_alloc _ ?_ ?_); focus (first | (simp; done) | (simp; omega) | omega)) | ((with_reducible refine bl_set _ ?_ ?_); focus (first | (simp; done) | (simp; omega) | omega)) | (with_reducible refine Below.drew ?_) | (with_reducible refine bl_drewN _ ?_))⟩)

end Go.Proofs.YtidnebhdjkdofaaDoor
