/- Contract: the number of a sand. No statement of the seat is proved here. -/
import Derived.Test.YtekbfekghheejaaCycle
namespace Go.Proofs.Ytekbfekghheejaa
open Go.RowKit Go.Proofs.YtekbfekghheejaaW.PrintWords Go.Proofs.YtekbfekghheejaaW.PrintLast
set_option linter.unusedVariables false
set_option linter.unusedSimpArgs false
def idOf (k s : Nat → Int) : Int := wrap64 (wrap64 (wrap64 (wrap64 (wrap64 (wrap64 (wrap64 (s 0) * wrap64 (k 1 + 1)) + s 1) * wrap64 (k 2 + 1)) + s 2) * wrap64 (k 3 + 1)) + s 3)
set_option maxHeartbeats 1600000 in
theorem l4Id_any (k s : Nat → Int) (w : World) : Calls Try.prog 72 #[A4 k, A4 s] w fun e w' => e = .returned (.int .i64 (idOf k s)) ∧ Below w.heap.size w w' := by
  go_enter Try.func72, Try.ntmps72
  go_wp2_with fail
  refine wp_loop_rounds 5 ?_
  go_wp2_with (first | (go_quiet (fail)) | (rw [rounds_succ]))
  all_goals (go_ret; exact ⟨ret_int (by first | rfl | (simp [idOf]; done) | trace_state), by (repeat first | (with_reducible assumption) | (with_reducible exact Below.refl _ _) | ((with_reducible refine bl_alloc _ ?_ ?_); focus (first | (simp; done) | (simp; omega) | omega)) | ((with_reducible refine bl_set _ ?_ ?_); focus (first | (simp; done) | (simp; omega) | omega)) | (with_reducible refine Below.drew ?_) | (with_reducible refine bl_drewN _ ?_))⟩)
def xL4Id.f (a0_0 a0_1 a0_2 a0_3 a1_0 a1_1 a1_2 a1_3 : Int) : Option (Int) := some (idOf (v4 a0_0 a0_1 a0_2 a0_3) (v4 a1_0 a1_1 a1_2 a1_3))
theorem xL4Id.calls (a0_0 a0_1 a0_2 a0_3 a1_0 a1_1 a1_2 a1_3 : Int) (r : Int) (w : World) (h : xL4Id.f a0_0 a0_1 a0_2 a0_3 a1_0 a1_1 a1_2 a1_3 = some (r)) : Calls Try.prog 72 #[.agg #[.int .i64 a0_0, .int .i64 a0_1, .int .i64 a0_2, .int .i64 a0_3], .agg #[.int .i64 a1_0, .int .i64 a1_1, .int .i64 a1_2, .int .i64 a1_3]] w fun e w' => e = .returned (.int .i64 r) ∧ Below w.heap.size w w' := by
  unfold xL4Id.f at h
  obtain rfl := Option.some.inj h
  exact l4Id_any (v4 a0_0 a0_1 a0_2 a0_3) (v4 a1_0 a1_1 a1_2 a1_3) w
end Go.Proofs.Ytekbfekghheejaa
