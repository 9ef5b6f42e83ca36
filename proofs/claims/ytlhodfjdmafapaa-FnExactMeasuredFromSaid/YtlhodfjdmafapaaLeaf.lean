/- Contracts: the number of a state, and the sand of a number. No statement of the seat is proved here. -/
import Derived.Test.YtlhodfjdmafapaaExt
namespace Go.Proofs.Ytlhodfjdmafapaa
open Go.RowKit
set_option linter.unusedVariables false
set_option linter.unusedSimpArgs false
def idFrom (k : Nat → Int) (t : Int) (s : Nat → Int) : Int := wrap64 (wrap64 (wrap64 (wrap64 (wrap64 (wrap64 (wrap64 (wrap64 (t * wrap64 (k 0 + 1)) + s 0) * wrap64 (k 1 + 1)) + s 1) * wrap64 (k 2 + 1)) + s 2) * wrap64 (k 3 + 1)) + s 3)
set_option maxHeartbeats 1600000 in
theorem l3Id_any (k : Nat → Int) (t : Int) (s : Nat → Int) (w : World) : Calls Try.prog 99 #[A4 k, .int .i64 t, A4 s] w fun e w' => e = .returned (.int .i64 (idFrom k t s)) ∧ Below w.heap.size w w' := by
  go_enter Try.func99, Try.ntmps99
  go_wp2_with fail
  refine wp_loop_rounds 5 ?_
  go_wp2_with (first | (go_quiet (fail)) | (rw [rounds_succ]))
  all_goals (go_ret; exact ⟨ret_int (by first | rfl | (simp [idFrom]; done) | trace_state), by (repeat first | (with_reducible assumption) | (with_reducible exact Below.refl _ _) | ((with_reducible refine bl_alloc _ ?_ ?_); focus (first | (simp; done) | (simp; omega) | omega)) | ((with_reducible refine bl_set _ ?_ ?_); focus (first | (simp; done) | (simp; omega) | omega)) | (with_reducible refine Below.drew ?_) | (with_reducible refine bl_drewN _ ?_))⟩)
def xL3Id.f (a0_0 a0_1 a0_2 a0_3 t a1_0 a1_1 a1_2 a1_3 : Int) : Option (Int) := some (idFrom (v4 a0_0 a0_1 a0_2 a0_3) t (v4 a1_0 a1_1 a1_2 a1_3))
theorem xL3Id.calls (a0_0 a0_1 a0_2 a0_3 t a1_0 a1_1 a1_2 a1_3 : Int) (r : Int) (w : World) (h : xL3Id.f a0_0 a0_1 a0_2 a0_3 t a1_0 a1_1 a1_2 a1_3 = some (r)) : Calls Try.prog 99 #[.agg #[.int .i64 a0_0, .int .i64 a0_1, .int .i64 a0_2, .int .i64 a0_3], .int .i64 t, .agg #[.int .i64 a1_0, .int .i64 a1_1, .int .i64 a1_2, .int .i64 a1_3]] w fun e w' => e = .returned (.int .i64 r) ∧ Below w.heap.size w w' := by
  unfold xL3Id.f at h
  obtain rfl := Option.some.inj h
  exact l3Id_any (v4 a0_0 a0_1 a0_2 a0_3) t (v4 a1_0 a1_1 a1_2 a1_3) w
end Go.Proofs.Ytlhodfjdmafapaa
