/- Contracts of the small functions on kits and their sands. No statement of the seat is proved here. -/
import Derived.Test.YtdbnajaimodnmaaProg
import Derived.Test.YtdbnajaimodnmaaBase
import Derived.BigQuiet
import Derived.Deep.QuietTactic
namespace Go.Proofs.Ytdbnajaimodnmaa
open Go.RowKit
set_option linter.unusedVariables false

theorem within_any (n lo hi : Int) (w : World) : Calls Try.prog 61 #[.int .i64 n, .int .i64 lo, .int .i64 hi] w fun e w' => e = .returned (.bool (inB lo hi n)) ∧ w = w' := by
  go_enter Try.func61, Try.ntmps61
  go_wp2
  · go_ret
    exact ⟨by rw [inB_t ‹_›]; rfl, rfl⟩
  · go_ret
    exact ⟨by rw [inB_f ‹_›]; rfl, rfl⟩

theorem l1In_any (n lo hi : Int) (w : World) : Calls Try.prog 50 #[.int .i64 n, .int .i64 lo, .int .i64 hi] w fun e w' => e = .returned (.bool (inB lo hi n)) ∧ w = w' := by
  go_enter Try.func50, Try.ntmps50
  go_wp2
  · go_ret
    exact ⟨by rw [inB_t ‹_›]; rfl, rfl⟩
  · go_ret
    exact ⟨by rw [inB_f ‹_›]; rfl, rfl⟩

theorem toIntA4_any (g : Nat → Int) (w : World) : Calls Try.prog 9 #[A4 g] w fun e w' => e = .returned (A4 g) ∧ Below w.heap.size w w' := by
  go_enter Try.func9, Try.ntmps9
  go_wp2
  refine wp_loop_rounds 5 ?_
  go_wp2_with (first | (rw [rounds_succ]))
  refine bodyPost_ret (v := A4 g) (by simp [results, Try.results9, go_sem]) rfl ⟨rfl, by (repeat first | (with_reducible assumption) | (with_reducible exact Below.refl _ _) | ((with_reducible refine bl_alloc _ ?_ ?_); focus (first | (simp; done) | (simp; omega) | omega)) | ((with_reducible refine bl_set _ ?_ ?_); focus (first | (simp; done) | (simp; omega) | omega)) | (with_reducible refine Below.drew ?_) | (with_reducible refine bl_drewN _ ?_))⟩

theorem toKit_any (g : Nat → Int) (w : World) : Calls Try.prog 8 #[A4 g] w fun e w' => e = .returned (A4 g) ∧ Below w.heap.size w w' := by
  go_enter Try.func8, Try.ntmps8
  go_wp2_with (first | (go_at_call 9; refine (toIntA4_any g _).mono ?_; rintro e w' ⟨rfl, hb⟩; have hB : Below w.heap.size w w' := Below.trans (by (repeat first | (with_reducible assumption) | (with_reducible exact Below.refl _ _) | ((with_reducible refine bl_alloc _ ?_ ?_); focus (first | (simp; done) | (simp; omega) | omega)) | ((with_reducible refine bl_set _ ?_ ?_); focus (first | (simp; done) | (simp; omega) | omega)) | (with_reducible refine Below.drew ?_) | (with_reducible refine bl_drewN _ ?_))) (hb.mono (by first | (simp; done) | (simp; omega) | omega)); obtain ⟨hc, hf⟩ := bcell hb; have hz := hb.size; (try simp at hz); (try have hy0 : w.heap.size < w'.heap.size := by omega); (try have hy1 : w.heap.size + 1 < w'.heap.size := by omega); (try have hy2 : w.heap.size + 1 + 1 < w'.heap.size := by omega); (try have hy3 : w.heap.size + 1 + 1 + 1 < w'.heap.size := by omega); clear hb))
  refine bodyPost_ret (v := A4 g) (by simp [results, Try.results8, go_sem, hc]) rfl ⟨rfl, by (repeat first | (with_reducible assumption) | (with_reducible exact Below.refl _ _) | ((with_reducible refine bl_alloc _ ?_ ?_); focus (first | (simp; done) | (simp; omega) | omega)) | ((with_reducible refine bl_set _ ?_ ?_); focus (first | (simp; done) | (simp; omega) | omega)) | (with_reducible refine Below.drew ?_) | (with_reducible refine bl_drewN _ ?_))⟩

theorem isKit_any (g : Nat → Int) (w : World) : Calls Try.prog 44 #[A4 g] w fun e w' => e = .returned (.bool (isKitB g)) ∧ Below w.heap.size w w' := by
  have i0 : ∀ w : World, (Instr.index 22 (A4 g) (.int .i64 0)).run Try.prog w = .ok (.int .i64 (g 0)) w := fun _ => by kernel_rfl
  have i1 : ∀ w : World, (Instr.index 22 (A4 g) (.int .i64 1)).run Try.prog w = .ok (.int .i64 (g 1)) w := fun _ => by kernel_rfl
  have i2 : ∀ w : World, (Instr.index 22 (A4 g) (.int .i64 2)).run Try.prog w = .ok (.int .i64 (g 2)) w := fun _ => by kernel_rfl
  have i3 : ∀ w : World, (Instr.index 22 (A4 g) (.int .i64 3)).run Try.prog w = .ok (.int .i64 (g 3)) w := fun _ => by kernel_rfl
  go_enter Try.func44, Try.ntmps44
  go_wp2_with fail
  refine wp_loop_rounds 5 ?_
  go_wp2_with (first | (rw [rounds_succ]) | (go_at_call 61; refine (within_any _ _ _ _).mono ?_; rintro e w' ⟨rfl, rfl⟩))
  all_goals (go_ret; exact ⟨ret_bool (by simp_all [isKitB]), by (repeat first | (with_reducible assumption) | (with_reducible exact Below.refl _ _) | ((with_reducible refine bl_alloc _ ?_ ?_); focus (first | (simp; done) | (simp; omega) | omega)) | ((with_reducible refine bl_set _ ?_ ?_); focus (first | (simp; done) | (simp; omega) | omega)) | (with_reducible refine Below.drew ?_) | (with_reducible refine bl_drewN _ ?_))⟩)

theorem l2Kit_any (g : Nat → Int) (w : World) : Calls Try.prog 43 #[A4 g] w fun e w' => e = .returned (.bool (isKitB g)) ∧ Below w.heap.size w w' := by
  go_enter Try.func43, Try.ntmps43
  go_wp2_with fail
  refine wp_loop_rounds 5 ?_
  go_wp2_with (first | (rw [rounds_succ]) | (go_at_call 50; refine (l1In_any _ _ _ _).mono ?_; rintro e w' ⟨rfl, rfl⟩))
  all_goals (go_ret; exact ⟨ret_bool (by simp_all [isKitB]), by (repeat first | (with_reducible assumption) | (with_reducible exact Below.refl _ _) | ((with_reducible refine bl_alloc _ ?_ ?_); focus (first | (simp; done) | (simp; omega) | omega)) | ((with_reducible refine bl_set _ ?_ ?_); focus (first | (simp; done) | (simp; omega) | omega)) | (with_reducible refine Below.drew ?_) | (with_reducible refine bl_drewN _ ?_))⟩)

theorem isSand_any (k s : Nat → Int) (w : World) : Calls Try.prog 53 #[A4 k, A4 s] w fun e w' => e = .returned (.bool (isSandB k s)) ∧ Below w.heap.size w w' := by
  have i0 : ∀ w : World, (Instr.index 22 (A4 s) (.int .i64 0)).run Try.prog w = .ok (.int .i64 (s 0)) w := fun _ => by kernel_rfl
  have i1 : ∀ w : World, (Instr.index 22 (A4 s) (.int .i64 1)).run Try.prog w = .ok (.int .i64 (s 1)) w := fun _ => by kernel_rfl
  have i2 : ∀ w : World, (Instr.index 22 (A4 s) (.int .i64 2)).run Try.prog w = .ok (.int .i64 (s 2)) w := fun _ => by kernel_rfl
  have i3 : ∀ w : World, (Instr.index 22 (A4 s) (.int .i64 3)).run Try.prog w = .ok (.int .i64 (s 3)) w := fun _ => by kernel_rfl
  go_enter Try.func53, Try.ntmps53
  go_wp2_with fail
  refine wp_loop_rounds 5 ?_
  go_wp2_with (first | (rw [rounds_succ]) | (go_at_call 61; refine (within_any _ _ _ _).mono ?_; rintro e w' ⟨rfl, rfl⟩))
  all_goals (go_ret; exact ⟨ret_bool (by simp_all [isSandB]), by (repeat first | (with_reducible assumption) | (with_reducible exact Below.refl _ _) | ((with_reducible refine bl_alloc _ ?_ ?_); focus (first | (simp; done) | (simp; omega) | omega)) | ((with_reducible refine bl_set _ ?_ ?_); focus (first | (simp; done) | (simp; omega) | omega)) | (with_reducible refine Below.drew ?_) | (with_reducible refine bl_drewN _ ?_))⟩)

theorem l2Sand_any (k s : Nat → Int) (w : World) : Calls Try.prog 29 #[A4 k, A4 s] w fun e w' => e = .returned (.bool (isSandB k s && isKitB k)) ∧ Below w.heap.size w w' := by
  go_enter Try.func29, Try.ntmps29
  go_wp2_with fail
  refine wp_loop_rounds 5 ?_
  go_wp2_with (first | (rw [rounds_succ]) | (go_quiet ((first | (go_at_call 50; first | exact quiet_left (l1In_any _ _ _ _) | exact quiet_add_left (l1In_any _ _ _ _))))) | (go_at_call 43; refine (l2Kit_any k _).mono ?_; rintro e w' ⟨rfl, hb⟩; have hB : Below w.heap.size w w' := Below.trans (by (repeat first | (with_reducible assumption) | (with_reducible exact Below.refl _ _) | ((with_reducible refine bl_alloc _ ?_ ?_); focus (first | (simp; done) | (simp; omega) | omega)) | ((with_reducible refine bl_set _ ?_ ?_); focus (first | (simp; done) | (simp; omega) | omega)) | (with_reducible refine Below.drew ?_) | (with_reducible refine bl_drewN _ ?_))) (hb.mono (by first | (simp; done) | (simp; omega) | omega)); obtain ⟨hc, hf⟩ := bcell hb; have hz := hb.size; (try simp at hz); (try have hy0 : w.heap.size < w'.heap.size := by omega); (try have hy1 : w.heap.size + 1 < w'.heap.size := by omega); (try have hy2 : w.heap.size + 1 + 1 < w'.heap.size := by omega); (try have hy3 : w.heap.size + 1 + 1 + 1 < w'.heap.size := by omega); clear hb))
  all_goals (go_ret; exact ⟨ret_bool (by simp_all [isSandB]), by (repeat first | (with_reducible assumption) | (with_reducible exact Below.refl _ _) | ((with_reducible refine bl_alloc _ ?_ ?_); focus (first | (simp; done) | (simp; omega) | omega)) | ((with_reducible refine bl_set _ ?_ ?_); focus (first | (simp; done) | (simp; omega) | omega)) | (with_reducible refine Below.drew ?_) | (with_reducible refine bl_drewN _ ?_))⟩)

theorem all_any (g : Nat → Int) (w : World) : Calls Try.prog 73 #[A4 g] w fun e w' => e = .returned (.int .i64 (allOf g)) ∧ Below w.heap.size w w' := by
  have i0 : ∀ w : World, (Instr.index 22 (A4 g) (.int .i64 0)).run Try.prog w = .ok (.int .i64 (g 0)) w := fun _ => by kernel_rfl
  have i1 : ∀ w : World, (Instr.index 22 (A4 g) (.int .i64 1)).run Try.prog w = .ok (.int .i64 (g 1)) w := fun _ => by kernel_rfl
  have i2 : ∀ w : World, (Instr.index 22 (A4 g) (.int .i64 2)).run Try.prog w = .ok (.int .i64 (g 2)) w := fun _ => by kernel_rfl
  have i3 : ∀ w : World, (Instr.index 22 (A4 g) (.int .i64 3)).run Try.prog w = .ok (.int .i64 (g 3)) w := fun _ => by kernel_rfl
  go_enter Try.func73, Try.ntmps73
  go_wp2_with fail
  refine wp_loop_rounds 5 ?_
  go_wp2_with (first | (rw [rounds_succ]))
  all_goals (go_ret; exact ⟨ret_int (by unfold allOf; (iterate 4 (first | rw [if_pos (by assumption)] | rw [if_neg (by omega)])); try first | rfl | decide), by (repeat first | (with_reducible assumption) | (with_reducible exact Below.refl _ _) | ((with_reducible refine bl_alloc _ ?_ ?_); focus (first | (simp; done) | (simp; omega) | omega)) | ((with_reducible refine bl_set _ ?_ ?_); focus (first | (simp; done) | (simp; omega) | omega)) | (with_reducible refine Below.drew ?_) | (with_reducible refine bl_drewN _ ?_))⟩)

theorem l2All_any (g : Nat → Int) (w : World) : Calls Try.prog 68 #[A4 g] w fun e w' => e = .returned (.int .i64 (allOf g)) ∧ Below w.heap.size w w' := by
  go_enter Try.func68, Try.ntmps68
  go_wp2_with fail
  refine wp_loop_rounds 5 ?_
  go_wp2_with (first | (rw [rounds_succ]))
  all_goals (go_ret; exact ⟨ret_int (by unfold allOf; (iterate 4 (first | rw [if_pos (by assumption)] | rw [if_neg (by omega)])); try first | rfl | decide), by (repeat first | (with_reducible assumption) | (with_reducible exact Below.refl _ _) | ((with_reducible refine bl_alloc _ ?_ ?_); focus (first | (simp; done) | (simp; omega) | omega)) | ((with_reducible refine bl_set _ ?_ ?_); focus (first | (simp; done) | (simp; omega) | omega)) | (with_reducible refine Below.drew ?_) | (with_reducible refine bl_drewN _ ?_))⟩)

theorem eqIntA4_same (g : Nat → Int) (w : World) : Calls Try.prog 13 #[A4 g, A4 g] w fun e w' => e = .returned (.bool true) ∧ Below w.heap.size w w' := by
  go_enter Try.func13, Try.ntmps13
  go_wp2_with fail
  refine wp_loop_rounds 5 ?_
  go_wp2_with (first | (rw [rounds_succ]) | (go_quiet (fail)))
  all_goals (go_ret; exact ⟨ret_bool (by rfl), by (repeat first | (with_reducible assumption) | (with_reducible exact Below.refl _ _) | ((with_reducible refine bl_alloc _ ?_ ?_); focus (first | (simp; done) | (simp; omega) | omega)) | ((with_reducible refine bl_set _ ?_ ?_); focus (first | (simp; done) | (simp; omega) | omega)) | (with_reducible refine Below.drew ?_) | (with_reducible refine bl_drewN _ ?_))⟩)

theorem eqKit_same (g : Nat → Int) (w : World) : Calls Try.prog 26 #[A4 g, A4 g] w fun e w' => e = .returned (.bool true) ∧ Below w.heap.size w w' := by
  go_enter Try.func26, Try.ntmps26
  go_wp2_with (first | (go_at_call 13; refine (eqIntA4_same g _).mono ?_; rintro e w' ⟨rfl, hb⟩; have hB : Below w.heap.size w w' := Below.trans (by (repeat first | (with_reducible assumption) | (with_reducible exact Below.refl _ _) | ((with_reducible refine bl_alloc _ ?_ ?_); focus (first | (simp; done) | (simp; omega) | omega)) | ((with_reducible refine bl_set _ ?_ ?_); focus (first | (simp; done) | (simp; omega) | omega)) | (with_reducible refine Below.drew ?_) | (with_reducible refine bl_drewN _ ?_))) (hb.mono (by first | (simp; done) | (simp; omega) | omega)); obtain ⟨hc, hf⟩ := bcell hb; have hz := hb.size; (try simp at hz); (try have hy0 : w.heap.size < w'.heap.size := by omega); (try have hy1 : w.heap.size + 1 < w'.heap.size := by omega); (try have hy2 : w.heap.size + 1 + 1 < w'.heap.size := by omega); (try have hy3 : w.heap.size + 1 + 1 + 1 < w'.heap.size := by omega); clear hb))
  all_goals (go_ret; exact ⟨ret_bool (by rfl), by (repeat first | (with_reducible assumption) | (with_reducible exact Below.refl _ _) | ((with_reducible refine bl_alloc _ ?_ ?_); focus (first | (simp; done) | (simp; omega) | omega)) | ((with_reducible refine bl_set _ ?_ ?_); focus (first | (simp; done) | (simp; omega) | omega)) | (with_reducible refine Below.drew ?_) | (with_reducible refine bl_drewN _ ?_))⟩)

end Go.Proofs.Ytdbnajaimodnmaa
