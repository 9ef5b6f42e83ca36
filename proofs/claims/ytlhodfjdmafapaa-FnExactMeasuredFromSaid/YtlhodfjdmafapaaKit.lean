/- Contracts of the small functions on kits and their sands. No statement of the seat is proved here. -/
import Derived.Test.YtlhodfjdmafapaaProg
import Derived.Test.YtlhodfjdmafapaaBase
import Derived.BigQuiet
import Derived.Deep.QuietTactic
namespace Go.Proofs.Ytlhodfjdmafapaa
open Go.RowKit
set_option linter.unusedVariables false

theorem within_any (n lo hi : Int) (w : World) : Calls Try.prog 64 #[.int .i64 n, .int .i64 lo, .int .i64 hi] w fun e w' => e = .returned (.bool (inB lo hi n)) ∧ w = w' := by
  go_enter Try.func64, Try.ntmps64
  go_wp2
  · go_ret
    exact ⟨by rw [inB_t ‹_›]; rfl, rfl⟩
  · go_ret
    exact ⟨by rw [inB_f ‹_›]; rfl, rfl⟩

theorem l1In_any (n lo hi : Int) (w : World) : Calls Try.prog 59 #[.int .i64 n, .int .i64 lo, .int .i64 hi] w fun e w' => e = .returned (.bool (inB lo hi n)) ∧ w = w' := by
  go_enter Try.func59, Try.ntmps59
  go_wp2
  · go_ret
    exact ⟨by rw [inB_t ‹_›]; rfl, rfl⟩
  · go_ret
    exact ⟨by rw [inB_f ‹_›]; rfl, rfl⟩

theorem toIntA4_any (g : Nat → Int) (w : World) : Calls Try.prog 18 #[A4 g] w fun e w' => e = .returned (A4 g) ∧ Below w.heap.size w w' := by
  go_enter Try.func18, Try.ntmps18
  go_wp2
  refine wp_loop_rounds 5 ?_
  go_wp2_with (first | (rw [rounds_succ]))
  refine bodyPost_ret (v := A4 g) (by simp [results, Try.results18, go_sem]) rfl ⟨rfl, by (repeat first | (with_reducible assumption) | (with_reducible exact Below.refl _ _) | ((with_reducible refine bl_alloc _ ?_ ?_); focus (first | (simp; done) | (simp; omega) | omega)) | ((with_reducible refine bl_set _ ?_ ?_); focus (first | (simp; done) | (simp; omega) | omega)) | (with_reducible refine Below.drew ?_) | (with_reducible refine bl_drewN _ ?_))⟩

theorem toKit_any (g : Nat → Int) (w : World) : Calls Try.prog 15 #[A4 g] w fun e w' => e = .returned (A4 g) ∧ Below w.heap.size w w' := by
  go_enter Try.func15, Try.ntmps15
  go_wp2_with (first | (go_at_call 18; refine (toIntA4_any g _).mono ?_; rintro e w' ⟨rfl, hb⟩; have hB : Below w.heap.size w w' := Below.trans (by (repeat first | (with_reducible assumption) | (with_reducible exact Below.refl _ _) | ((with_reducible refine bl_alloc _ ?_ ?_); focus (first | (simp; done) | (simp; omega) | omega)) | ((with_reducible refine bl_set _ ?_ ?_); focus (first | (simp; done) | (simp; omega) | omega)) | (with_reducible refine Below.drew ?_) | (with_reducible refine bl_drewN _ ?_))) (hb.mono (by first | (simp; done) | (simp; omega) | omega)); obtain ⟨hc, hf⟩ := bcell hb; have hz := hb.size; (try simp at hz); (try have hy0 : w.heap.size < w'.heap.size := by omega); (try have hy1 : w.heap.size + 1 < w'.heap.size := by omega); (try have hy2 : w.heap.size + 1 + 1 < w'.heap.size := by omega); (try have hy3 : w.heap.size + 1 + 1 + 1 < w'.heap.size := by omega); clear hb))
  refine bodyPost_ret (v := A4 g) (by simp [results, Try.results15, go_sem, hc]) rfl ⟨rfl, by (repeat first | (with_reducible assumption) | (with_reducible exact Below.refl _ _) | ((with_reducible refine bl_alloc _ ?_ ?_); focus (first | (simp; done) | (simp; omega) | omega)) | ((with_reducible refine bl_set _ ?_ ?_); focus (first | (simp; done) | (simp; omega) | omega)) | (with_reducible refine Below.drew ?_) | (with_reducible refine bl_drewN _ ?_))⟩

theorem isKit_any (g : Nat → Int) (w : World) : Calls Try.prog 88 #[A4 g] w fun e w' => e = .returned (.bool (isKitB g)) ∧ Below w.heap.size w w' := by
  have i0 : ∀ w : World, (Instr.index 22 (A4 g) (.int .i64 0)).run Try.prog w = .ok (.int .i64 (g 0)) w := fun _ => by kernel_rfl
  have i1 : ∀ w : World, (Instr.index 22 (A4 g) (.int .i64 1)).run Try.prog w = .ok (.int .i64 (g 1)) w := fun _ => by kernel_rfl
  have i2 : ∀ w : World, (Instr.index 22 (A4 g) (.int .i64 2)).run Try.prog w = .ok (.int .i64 (g 2)) w := fun _ => by kernel_rfl
  have i3 : ∀ w : World, (Instr.index 22 (A4 g) (.int .i64 3)).run Try.prog w = .ok (.int .i64 (g 3)) w := fun _ => by kernel_rfl
  go_enter Try.func88, Try.ntmps88
  go_wp2_with fail
  refine wp_loop_rounds 5 ?_
  go_wp2_with (first | (rw [rounds_succ]) | (go_at_call 64; refine (within_any _ _ _ _).mono ?_; rintro e w' ⟨rfl, rfl⟩))
  all_goals (go_ret; exact ⟨ret_bool (by simp_all [isKitB]), by (repeat first | (with_reducible assumption) | (with_reducible exact Below.refl _ _) | ((with_reducible refine bl_alloc _ ?_ ?_); focus (first | (simp; done) | (simp; omega) | omega)) | ((with_reducible refine bl_set _ ?_ ?_); focus (first | (simp; done) | (simp; omega) | omega)) | (with_reducible refine Below.drew ?_) | (with_reducible refine bl_drewN _ ?_))⟩)

theorem l2Kit_any (g : Nat → Int) (w : World) : Calls Try.prog 76 #[A4 g] w fun e w' => e = .returned (.bool (isKitB g)) ∧ Below w.heap.size w w' := by
  go_enter Try.func76, Try.ntmps76
  go_wp2_with fail
  refine wp_loop_rounds 5 ?_
  go_wp2_with (first | (rw [rounds_succ]) | (go_at_call 59; refine (l1In_any _ _ _ _).mono ?_; rintro e w' ⟨rfl, rfl⟩))
  all_goals (go_ret; exact ⟨ret_bool (by simp_all [isKitB]), by (repeat first | (with_reducible assumption) | (with_reducible exact Below.refl _ _) | ((with_reducible refine bl_alloc _ ?_ ?_); focus (first | (simp; done) | (simp; omega) | omega)) | ((with_reducible refine bl_set _ ?_ ?_); focus (first | (simp; done) | (simp; omega) | omega)) | (with_reducible refine Below.drew ?_) | (with_reducible refine bl_drewN _ ?_))⟩)

theorem isSand_any (k s : Nat → Int) (w : World) : Calls Try.prog 89 #[A4 k, A4 s] w fun e w' => e = .returned (.bool (isSandB k s)) ∧ Below w.heap.size w w' := by
  have i0 : ∀ w : World, (Instr.index 22 (A4 s) (.int .i64 0)).run Try.prog w = .ok (.int .i64 (s 0)) w := fun _ => by kernel_rfl
  have i1 : ∀ w : World, (Instr.index 22 (A4 s) (.int .i64 1)).run Try.prog w = .ok (.int .i64 (s 1)) w := fun _ => by kernel_rfl
  have i2 : ∀ w : World, (Instr.index 22 (A4 s) (.int .i64 2)).run Try.prog w = .ok (.int .i64 (s 2)) w := fun _ => by kernel_rfl
  have i3 : ∀ w : World, (Instr.index 22 (A4 s) (.int .i64 3)).run Try.prog w = .ok (.int .i64 (s 3)) w := fun _ => by kernel_rfl
  go_enter Try.func89, Try.ntmps89
  go_wp2_with fail
  refine wp_loop_rounds 5 ?_
  go_wp2_with (first | (rw [rounds_succ]) | (go_at_call 64; refine (within_any _ _ _ _).mono ?_; rintro e w' ⟨rfl, rfl⟩))
  all_goals (go_ret; exact ⟨ret_bool (by simp_all [isSandB]), by (repeat first | (with_reducible assumption) | (with_reducible exact Below.refl _ _) | ((with_reducible refine bl_alloc _ ?_ ?_); focus (first | (simp; done) | (simp; omega) | omega)) | ((with_reducible refine bl_set _ ?_ ?_); focus (first | (simp; done) | (simp; omega) | omega)) | (with_reducible refine Below.drew ?_) | (with_reducible refine bl_drewN _ ?_))⟩)

theorem l2Sand_any (k s : Nat → Int) (w : World) : Calls Try.prog 49 #[A4 k, A4 s] w fun e w' => e = .returned (.bool (isSandB k s && isKitB k)) ∧ Below w.heap.size w w' := by
  go_enter Try.func49, Try.ntmps49
  go_wp2_with fail
  refine wp_loop_rounds 5 ?_
  go_wp2_with (first | (rw [rounds_succ]) | (go_quiet ((first | (go_at_call 59; first | exact quiet_left (l1In_any _ _ _ _) | exact quiet_add_left (l1In_any _ _ _ _))))) | (go_at_call 76; refine (l2Kit_any k _).mono ?_; rintro e w' ⟨rfl, hb⟩; have hB : Below w.heap.size w w' := Below.trans (by (repeat first | (with_reducible assumption) | (with_reducible exact Below.refl _ _) | ((with_reducible refine bl_alloc _ ?_ ?_); focus (first | (simp; done) | (simp; omega) | omega)) | ((with_reducible refine bl_set _ ?_ ?_); focus (first | (simp; done) | (simp; omega) | omega)) | (with_reducible refine Below.drew ?_) | (with_reducible refine bl_drewN _ ?_))) (hb.mono (by first | (simp; done) | (simp; omega) | omega)); obtain ⟨hc, hf⟩ := bcell hb; have hz := hb.size; (try simp at hz); (try have hy0 : w.heap.size < w'.heap.size := by omega); (try have hy1 : w.heap.size + 1 < w'.heap.size := by omega); (try have hy2 : w.heap.size + 1 + 1 < w'.heap.size := by omega); (try have hy3 : w.heap.size + 1 + 1 + 1 < w'.heap.size := by omega); clear hb))
  all_goals (go_ret; exact ⟨ret_bool (by simp_all [isSandB]), by (repeat first | (with_reducible assumption) | (with_reducible exact Below.refl _ _) | ((with_reducible refine bl_alloc _ ?_ ?_); focus (first | (simp; done) | (simp; omega) | omega)) | ((with_reducible refine bl_set _ ?_ ?_); focus (first | (simp; done) | (simp; omega) | omega)) | (with_reducible refine Below.drew ?_) | (with_reducible refine bl_drewN _ ?_))⟩)

theorem all_any (g : Nat → Int) (w : World) : Calls Try.prog 104 #[A4 g] w fun e w' => e = .returned (.int .i64 (allOf g)) ∧ Below w.heap.size w w' := by
  have i0 : ∀ w : World, (Instr.index 22 (A4 g) (.int .i64 0)).run Try.prog w = .ok (.int .i64 (g 0)) w := fun _ => by kernel_rfl
  have i1 : ∀ w : World, (Instr.index 22 (A4 g) (.int .i64 1)).run Try.prog w = .ok (.int .i64 (g 1)) w := fun _ => by kernel_rfl
  have i2 : ∀ w : World, (Instr.index 22 (A4 g) (.int .i64 2)).run Try.prog w = .ok (.int .i64 (g 2)) w := fun _ => by kernel_rfl
  have i3 : ∀ w : World, (Instr.index 22 (A4 g) (.int .i64 3)).run Try.prog w = .ok (.int .i64 (g 3)) w := fun _ => by kernel_rfl
  go_enter Try.func104, Try.ntmps104
  go_wp2_with fail
  refine wp_loop_rounds 5 ?_
  go_wp2_with (first | (rw [rounds_succ]))
  all_goals (go_ret; exact ⟨ret_int (by unfold allOf; (iterate 4 (first | rw [if_pos (by assumption)] | rw [if_neg (by omega)])); try first | rfl | decide), by (repeat first | (with_reducible assumption) | (with_reducible exact Below.refl _ _) | ((with_reducible refine bl_alloc _ ?_ ?_); focus (first | (simp; done) | (simp; omega) | omega)) | ((with_reducible refine bl_set _ ?_ ?_); focus (first | (simp; done) | (simp; omega) | omega)) | (with_reducible refine Below.drew ?_) | (with_reducible refine bl_drewN _ ?_))⟩)

theorem l2All_any (g : Nat → Int) (w : World) : Calls Try.prog 86 #[A4 g] w fun e w' => e = .returned (.int .i64 (allOf g)) ∧ Below w.heap.size w w' := by
  go_enter Try.func86, Try.ntmps86
  go_wp2_with fail
  refine wp_loop_rounds 5 ?_
  go_wp2_with (first | (rw [rounds_succ]))
  all_goals (go_ret; exact ⟨ret_int (by unfold allOf; (iterate 4 (first | rw [if_pos (by assumption)] | rw [if_neg (by omega)])); try first | rfl | decide), by (repeat first | (with_reducible assumption) | (with_reducible exact Below.refl _ _) | ((with_reducible refine bl_alloc _ ?_ ?_); focus (first | (simp; done) | (simp; omega) | omega)) | ((with_reducible refine bl_set _ ?_ ?_); focus (first | (simp; done) | (simp; omega) | omega)) | (with_reducible refine Below.drew ?_) | (with_reducible refine bl_drewN _ ?_))⟩)

theorem product_any (g : Nat → Int) (w : World) : Calls Try.prog 80 #[A4 g] w fun e w' => e = .returned (.int .i64 (prodOf g)) ∧ Below w.heap.size w w' := by
  have i0 : ∀ w : World, (Instr.index 22 (A4 g) (.int .i64 0)).run Try.prog w = .ok (.int .i64 (g 0)) w := fun _ => by kernel_rfl
  have i1 : ∀ w : World, (Instr.index 22 (A4 g) (.int .i64 1)).run Try.prog w = .ok (.int .i64 (g 1)) w := fun _ => by kernel_rfl
  have i2 : ∀ w : World, (Instr.index 22 (A4 g) (.int .i64 2)).run Try.prog w = .ok (.int .i64 (g 2)) w := fun _ => by kernel_rfl
  have i3 : ∀ w : World, (Instr.index 22 (A4 g) (.int .i64 3)).run Try.prog w = .ok (.int .i64 (g 3)) w := fun _ => by kernel_rfl
  go_enter Try.func80, Try.ntmps80
  go_wp2_with fail
  refine wp_loop_rounds 5 ?_
  go_wp2_with (first | (rw [rounds_succ]))
  all_goals (go_ret; exact ⟨ret_int (by rfl), by (repeat first | (with_reducible assumption) | (with_reducible exact Below.refl _ _) | ((with_reducible refine bl_alloc _ ?_ ?_); focus (first | (simp; done) | (simp; omega) | omega)) | ((with_reducible refine bl_set _ ?_ ?_); focus (first | (simp; done) | (simp; omega) | omega)) | (with_reducible refine Below.drew ?_) | (with_reducible refine bl_drewN _ ?_))⟩)

theorem l4Many_any (g : Nat → Int) (w : World) : Calls Try.prog 77 #[A4 g] w fun e w' => e = .returned (.int .i64 (prodOf g)) ∧ Below w.heap.size w w' := by
  go_enter Try.func77, Try.ntmps77
  go_wp2_with fail
  refine wp_loop_rounds 5 ?_
  go_wp2_with (first | (rw [rounds_succ]))
  all_goals (go_ret; exact ⟨ret_int (by rfl), by (repeat first | (with_reducible assumption) | (with_reducible exact Below.refl _ _) | ((with_reducible refine bl_alloc _ ?_ ?_); focus (first | (simp; done) | (simp; omega) | omega)) | ((with_reducible refine bl_set _ ?_ ?_); focus (first | (simp; done) | (simp; omega) | omega)) | (with_reducible refine Below.drew ?_) | (with_reducible refine bl_drewN _ ?_))⟩)

theorem l3Many_any (g : Nat → Int) (w : World) : Calls Try.prog 97 #[A4 g] w fun e w' => e = .returned (.int .i64 (prodOf g)) ∧ Below w.heap.size w w' := by
  go_enter Try.func97, Try.ntmps97
  go_wp2_with fail
  refine wp_loop_rounds 5 ?_
  go_wp2_with (first | (rw [rounds_succ]))
  all_goals (go_ret; exact ⟨ret_int (by rfl), by (repeat first | (with_reducible assumption) | (with_reducible exact Below.refl _ _) | ((with_reducible refine bl_alloc _ ?_ ?_); focus (first | (simp; done) | (simp; omega) | omega)) | ((with_reducible refine bl_set _ ?_ ?_); focus (first | (simp; done) | (simp; omega) | omega)) | (with_reducible refine Below.drew ?_) | (with_reducible refine bl_drewN _ ?_))⟩)

theorem eqIntA4_same (g : Nat → Int) (w : World) : Calls Try.prog 69 #[A4 g, A4 g] w fun e w' => e = .returned (.bool true) ∧ Below w.heap.size w w' := by
  go_enter Try.func69, Try.ntmps69
  go_wp2_with fail
  refine wp_loop_rounds 5 ?_
  go_wp2_with (first | (rw [rounds_succ]) | (go_quiet (fail)))
  all_goals (go_ret; exact ⟨ret_bool (by rfl), by (repeat first | (with_reducible assumption) | (with_reducible exact Below.refl _ _) | ((with_reducible refine bl_alloc _ ?_ ?_); focus (first | (simp; done) | (simp; omega) | omega)) | ((with_reducible refine bl_set _ ?_ ?_); focus (first | (simp; done) | (simp; omega) | omega)) | (with_reducible refine Below.drew ?_) | (with_reducible refine bl_drewN _ ?_))⟩)

theorem l4Narrow_any (g : Nat → Int) (w : World) : Calls Try.prog 44 #[A4 g] w fun e w' => e = .returned (.bool (isKitB g && decide (prodOf g ≤ 3000))) ∧ Below w.heap.size w w' := by
  go_enter Try.func44, Try.ntmps44
  go_wp2_with (first | (go_at_call 76; refine (l2Kit_any g _).mono ?_; rintro e w' ⟨rfl, hb⟩; have hB : Below w.heap.size w w' := Below.trans (by (repeat first | (with_reducible assumption) | (with_reducible exact Below.refl _ _) | ((with_reducible refine bl_alloc _ ?_ ?_); focus (first | (simp; done) | (simp; omega) | omega)) | ((with_reducible refine bl_set _ ?_ ?_); focus (first | (simp; done) | (simp; omega) | omega)) | (with_reducible refine Below.drew ?_) | (with_reducible refine bl_drewN _ ?_))) (hb.mono (by first | (simp; done) | (simp; omega) | omega)); obtain ⟨hc, hf⟩ := bcell hb; have hz := hb.size; (try simp at hz); (try have hy0 : w.heap.size < w'.heap.size := by omega); (try have hy1 : w.heap.size + 1 < w'.heap.size := by omega); (try have hy2 : w.heap.size + 1 + 1 < w'.heap.size := by omega); (try have hy3 : w.heap.size + 1 + 1 + 1 < w'.heap.size := by omega); clear hb) | (go_at_call 77; refine (l4Many_any g _).mono ?_; rintro e w' ⟨rfl, hb⟩; have hB : Below w.heap.size w w' := Below.trans (by (repeat first | (with_reducible assumption) | (with_reducible exact Below.refl _ _) | ((with_reducible refine bl_alloc _ ?_ ?_); focus (first | (simp; done) | (simp; omega) | omega)) | ((with_reducible refine bl_set _ ?_ ?_); focus (first | (simp; done) | (simp; omega) | omega)) | (with_reducible refine Below.drew ?_) | (with_reducible refine bl_drewN _ ?_))) (hb.mono (by first | (simp; done) | (simp; omega) | omega)); obtain ⟨hc, hf⟩ := bcell hb; have hz := hb.size; (try simp at hz); (try have hy0 : w.heap.size < w'.heap.size := by omega); (try have hy1 : w.heap.size + 1 < w'.heap.size := by omega); (try have hy2 : w.heap.size + 1 + 1 < w'.heap.size := by omega); (try have hy3 : w.heap.size + 1 + 1 + 1 < w'.heap.size := by omega); clear hb))
  go_ways
  all_goals (go_ret; exact ⟨ret_bool (by simp_all), by (repeat first | (with_reducible assumption) | (with_reducible exact Below.refl _ _) | ((with_reducible refine bl_alloc _ ?_ ?_); focus (first | (simp; done) | (simp; omega) | omega)) | ((with_reducible refine bl_set _ ?_ ?_); focus (first | (simp; done) | (simp; omega) | omega)) | (with_reducible refine Below.drew ?_) | (with_reducible refine bl_drewN _ ?_))⟩)

end Go.Proofs.Ytlhodfjdmafapaa
