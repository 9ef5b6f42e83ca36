/- Contracts: fresh ropes, lightings, the next burning out. No statement of the seat is proved here. -/
import Derived.Test.YtgfiggmkncafiaaRopes
namespace Go.Proofs.Ytgfiggmkncafiaa
open Go.RowKit
set_option linter.unusedVariables false

set_option maxHeartbeats 1600000 in
theorem FreshRopes_any (m : Nat → Int) (w : World) : Calls Try.prog 27 #[A3 m] w fun e w' => e = .returned (.tuple #[A6 (opt (freshF m) (freshB m)), .bool (freshB m)]) ∧ Below w.heap.size w w' := by
  have i0 : ∀ w : World, (Instr.index 27 (A3 m) (.int .i64 0)).run Try.prog w = .ok (.int .i64 (m 0)) w := fun _ => by kernel_rfl
  have i1 : ∀ w : World, (Instr.index 27 (A3 m) (.int .i64 1)).run Try.prog w = .ok (.int .i64 (m 1)) w := fun _ => by kernel_rfl
  have i2 : ∀ w : World, (Instr.index 27 (A3 m) (.int .i64 2)).run Try.prog w = .ok (.int .i64 (m 2)) w := fun _ => by kernel_rfl
  cases z0 : inB 0 60 (m 0) <;> cases z1 : inB 0 60 (m 1) <;> cases z2 : inB 0 60 (m 2)
  all_goals
    go_enter Try.func27, Try.ntmps27
    go_wp2_with fail
    refine wp_loop_rounds 4 ?_
    go_wp2_with (first | (rw [rounds_succ]) | (go_at_call 45; refine (within_any _ _ _ _).mono ?_; rintro e w' ⟨rfl, rfl⟩))
    refine bodyPost_ret (v := .tuple #[A6 (opt (freshF m) (freshB m)), .bool (freshB m)]) (by simp [results, Try.results27, go_sem, opt, freshF, freshB, *]) rfl ⟨by simp [*], by (repeat first | (with_reducible assumption) | (with_reducible exact Below.refl _ _) | ((with_reducible refine bl_alloc _ ?_ ?_); focus (first | (simp; done) | (simp; omega) | omega)) | ((with_reducible refine bl_set _ ?_ ?_); focus (first | (simp; done) | (simp; omega) | omega)) | (with_reducible refine Below.drew ?_) | (with_reducible refine bl_drewN _ ?_))⟩

set_option maxHeartbeats 1600000 in
theorem specFreshRopes_any (m : Nat → Int) (w : World) : Calls Try.prog 25 #[A3 m] w fun e w' => e = .returned (.tuple #[A6 (opt (freshF m) (freshB m)), .bool (freshB m)]) ∧ Below w.heap.size w w' := by
  have mc : ∀ x : Int, (64 : Int) * x = x * 64 := fun x => Int.mul_comm _ _
  cases z0 : inB 0 60 (m 0) <;> cases z1 : inB 0 60 (m 1) <;> cases z2 : inB 0 60 (m 2)
  all_goals
    go_enter Try.func25, Try.ntmps25
    go_wp2_with fail
    refine wp_loop_rounds 4 ?_
    go_wp2_with (first | (rw [rounds_succ]) | (go_at_call 47; refine (l1In_any _ _ _ _).mono ?_; rintro e w' ⟨rfl, rfl⟩))
    refine bodyPost_ret (v := .tuple #[A6 (opt (freshF m) (freshB m)), .bool (freshB m)]) (by simp [results, Try.results25, go_sem, opt, freshF, freshB, *]) rfl ⟨by simp [*], by (repeat first | (with_reducible assumption) | (with_reducible exact Below.refl _ _) | ((with_reducible refine bl_alloc _ ?_ ?_); focus (first | (simp; done) | (simp; omega) | omega)) | ((with_reducible refine bl_set _ ?_ ?_); focus (first | (simp; done) | (simp; omega) | omega)) | (with_reducible refine Below.drew ?_) | (with_reducible refine bl_drewN _ ?_))⟩

end Go.Proofs.Ytgfiggmkncafiaa
