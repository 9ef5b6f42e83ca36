/- Contracts: the number of a sand, and the sand of a number. No statement of the seat is proved here. -/
import Derived.Test.YtlhodfjdmafapaaExt
namespace Go.Proofs.Ytlhodfjdmafapaa
open Go.RowKit
set_option linter.unusedVariables false
set_option linter.unusedSimpArgs false
def idOf (k s : Nat → Int) : Int := wrap64 (wrap64 (wrap64 (wrap64 (wrap64 (wrap64 (wrap64 (s 0) * wrap64 (k 1 + 1)) + s 1) * wrap64 (k 2 + 1)) + s 2) * wrap64 (k 3 + 1)) + s 3)
set_option maxHeartbeats 1600000 in
theorem l4Id_any (k s : Nat → Int) (w : World) : Calls Try.prog 50 #[A4 k, A4 s] w fun e w' => e = .returned (.int .i64 (idOf k s)) ∧ Below w.heap.size w w' := by
  go_enter Try.func50, Try.ntmps50
  go_wp2_with fail
  refine wp_loop_rounds 5 ?_
  go_wp2_with (first | (go_quiet (fail)) | (rw [rounds_succ]))
  all_goals (go_ret; exact ⟨ret_int (by first | rfl | (simp [idOf]; done) | trace_state), by (repeat first | (with_reducible assumption) | (with_reducible exact Below.refl _ _) | ((with_reducible refine bl_alloc _ ?_ ?_); focus (first | (simp; done) | (simp; omega) | omega)) | ((with_reducible refine bl_set _ ?_ ?_); focus (first | (simp; done) | (simp; omega) | omega)) | (with_reducible refine Below.drew ?_) | (with_reducible refine bl_drewN _ ?_))⟩)
def xL4Id.f (a0_0 a0_1 a0_2 a0_3 a1_0 a1_1 a1_2 a1_3 : Int) : Option (Int) := some (idOf (v4 a0_0 a0_1 a0_2 a0_3) (v4 a1_0 a1_1 a1_2 a1_3))
theorem xL4Id.calls (a0_0 a0_1 a0_2 a0_3 a1_0 a1_1 a1_2 a1_3 : Int) (r : Int) (w : World) (h : xL4Id.f a0_0 a0_1 a0_2 a0_3 a1_0 a1_1 a1_2 a1_3 = some (r)) : Calls Try.prog 50 #[.agg #[.int .i64 a0_0, .int .i64 a0_1, .int .i64 a0_2, .int .i64 a0_3], .agg #[.int .i64 a1_0, .int .i64 a1_1, .int .i64 a1_2, .int .i64 a1_3]] w fun e w' => e = .returned (.int .i64 r) ∧ Below w.heap.size w w' := by
  unfold xL4Id.f at h
  obtain rfl := Option.some.inj h
  exact l4Id_any (v4 a0_0 a0_1 a0_2 a0_3) (v4 a1_0 a1_1 a1_2 a1_3) w
def sandAt (k : Nat → Int) (id : Int) : Nat → Int := v4 (id / (k 3 + 1) / (k 2 + 1) / (k 1 + 1) % (k 0 + 1)) (id / (k 3 + 1) / (k 2 + 1) % (k 1 + 1)) (id / (k 3 + 1) % (k 2 + 1)) (id % (k 3 + 1))
set_option maxHeartbeats 1600000 in
theorem l4Sand_any (k : Nat → Int) (id : Int) (hk : ∀ i, i < 4 → 0 ≤ k i ∧ k i ≤ 30) (h0 : 0 ≤ id) (h1 : id ≤ 4000000) (w : World) : Calls Try.prog 79 #[A4 k, .int .i64 id] w fun e w' => e = .returned (A4 (sandAt k id)) ∧ Below w.heap.size w w' := by
  have a0 := (hk 0 (by omega)).1
  have b0 := (hk 0 (by omega)).2
  have a1 := (hk 1 (by omega)).1
  have b1 := (hk 1 (by omega)).2
  have a2 := (hk 2 (by omega)).1
  have b2 := (hk 2 (by omega)).2
  have a3 := (hk 3 (by omega)).1
  have b3 := (hk 3 (by omega)).2
  have d3 : 0 ≤ id / (k 3 + 1) := Int.ediv_nonneg h0 (by omega)
  have e3 : id / (k 3 + 1) ≤ 4000000 := Int.le_trans (Int.ediv_le_self _ h0) h1
  have d2 : 0 ≤ id / (k 3 + 1) / (k 2 + 1) := Int.ediv_nonneg d3 (by omega)
  have e2 : id / (k 3 + 1) / (k 2 + 1) ≤ 4000000 := Int.le_trans (Int.ediv_le_self _ d3) e3
  have d1 : 0 ≤ id / (k 3 + 1) / (k 2 + 1) / (k 1 + 1) := Int.ediv_nonneg d2 (by omega)
  have e1 : id / (k 3 + 1) / (k 2 + 1) / (k 1 + 1) ≤ 4000000 := Int.le_trans (Int.ediv_le_self _ d2) e2
  clear hk
  go_enter Try.func79, Try.ntmps79
  go_wp2_with fail
  refine wp_loop_rounds 5 ?_
  go_wp2_with (first | (go_quiet (fail)) | (rw [rounds_succ]))
  refine bodyPost_ret (v := A4 (sandAt k id)) (by simp [results, Try.results79, go_sem]; first | done | rfl | simp [sandAt, v4]) rfl ⟨rfl, by (repeat first | (with_reducible assumption) | (with_reducible exact Below.refl _ _) | ((with_reducible refine bl_alloc _ ?_ ?_); focus (first | (simp; done) | (simp; omega) | omega)) | ((with_reducible refine bl_set _ ?_ ?_); focus (first | (simp; done) | (simp; omega) | omega)) | (with_reducible refine Below.drew ?_) | (with_reducible refine bl_drewN _ ?_))⟩
def kitB30 (k : Nat → Int) : Bool := inB 0 30 (k 0) && inB 0 30 (k 1) && inB 0 30 (k 2) && inB 0 30 (k 3)
def xL4Sand.f (a0_0 a0_1 a0_2 a0_3 id : Int) : Option (Int × Int × Int × Int) :=
  if (kitB30 (v4 a0_0 a0_1 a0_2 a0_3) && inB 0 4000000 id) = true then some ((sandAt (v4 a0_0 a0_1 a0_2 a0_3) id) 0, (sandAt (v4 a0_0 a0_1 a0_2 a0_3) id) 1, (sandAt (v4 a0_0 a0_1 a0_2 a0_3) id) 2, (sandAt (v4 a0_0 a0_1 a0_2 a0_3) id) 3) else none
theorem xL4Sand.calls (a0_0 a0_1 a0_2 a0_3 id : Int) (r0 r1 r2 r3 : Int) (w : World) (h : xL4Sand.f a0_0 a0_1 a0_2 a0_3 id = some (r0, r1, r2, r3)) : Calls Try.prog 79 #[.agg #[.int .i64 a0_0, .int .i64 a0_1, .int .i64 a0_2, .int .i64 a0_3], .int .i64 id] w fun e w' => e = .returned (.agg #[.int .i64 r0, .int .i64 r1, .int .i64 r2, .int .i64 r3]) ∧ Below w.heap.size w w' := by
  unfold xL4Sand.f at h
  split at h
  · rename_i q
    rw [Bool.and_eq_true, inB_iff] at q
    obtain ⟨q1, q2, q3⟩ := q
    simp only [kitB30, Bool.and_eq_true, inB_iff] at q1
    simp only [Option.some.injEq, Prod.mk.injEq] at h
    obtain ⟨rfl, rfl, rfl, rfl⟩ := h
    exact l4Sand_any (v4 a0_0 a0_1 a0_2 a0_3) id (four q1.1.1.1 q1.1.1.2 q1.1.2 q1.2) q2 q3 w
  · cases h
end Go.Proofs.Ytlhodfjdmafapaa
