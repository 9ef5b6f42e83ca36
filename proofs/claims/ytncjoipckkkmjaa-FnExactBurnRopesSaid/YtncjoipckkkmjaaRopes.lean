/- Contracts of the functions on ropes. No statement of the seat is proved here. -/
import Derived.Test.YtncjoipckkkmjaaKit
import Derived.Test.YtncjoipckkkmjaaRopeBase
namespace Go.Proofs.Ytncjoipckkkmjaa
open Go.RowKit
set_option linter.unusedVariables false

theorem toIntA3_any (g : Nat → Int) (w : World) : Calls Try.prog 68 #[A3 g] w fun e w' => e = .returned (A3 g) ∧ Below w.heap.size w w' := by
  all_goals
    go_enter Try.func68, Try.ntmps68
    go_wp2_with fail
    refine wp_loop_rounds 4 ?_
    go_wp2_with (first | (rw [rounds_succ]))
    all_goals refine bodyPost_ret (v := A3 g) (by simp [results, Try.results68, go_sem]) rfl ⟨rfl, by (repeat first | (with_reducible assumption) | (with_reducible exact Below.refl _ _) | ((with_reducible refine bl_alloc _ ?_ ?_); focus (first | (simp; done) | (simp; omega) | omega)) | ((with_reducible refine bl_set _ ?_ ?_); focus (first | (simp; done) | (simp; omega) | omega)) | (with_reducible refine Below.drew ?_) | (with_reducible refine bl_drewN _ ?_))⟩

theorem toRopes_any (r : Nat → Int) (w : World) : Calls Try.prog 32 #[A6 r] w fun e w' => e = .returned (A6 r) ∧ Below w.heap.size w w' := by
  go_enter Try.func32, Try.ntmps32
  go_wp2_with fail
  refine (toIntA3_any r _).mono ?_
  rintro e w1 ⟨rfl, hb1⟩
  have c0 : w1.cell? ⟨w.heap.size, 0, none⟩ = some (.int .i64 (r 0)) := keep_below hb1 (by simp [go_sem])
  have c1 : w1.cell? ⟨w.heap.size, 1, none⟩ = some (.int .i64 (r 1)) := keep_below hb1 (by simp [go_sem])
  have c2 : w1.cell? ⟨w.heap.size, 2, none⟩ = some (.int .i64 (r 2)) := keep_below hb1 (by simp [go_sem])
  have c3 : w1.cell? ⟨w.heap.size, 3, none⟩ = some (.int .i64 (r 3)) := keep_below hb1 (by simp [go_sem])
  have c4 : w1.cell? ⟨w.heap.size, 4, none⟩ = some (.int .i64 (r 4)) := keep_below hb1 (by simp [go_sem])
  have c5 : w1.cell? ⟨w.heap.size, 5, none⟩ = some (.int .i64 (r 5)) := keep_below hb1 (by simp [go_sem])
  have d0 : w1.cell? ⟨w.heap.size + 1, 0, none⟩ = some (.int .i64 0) := keep_below hb1 (by simp [go_sem])
  have d1 : w1.cell? ⟨w.heap.size + 1, 1, none⟩ = some (.int .i64 0) := keep_below hb1 (by simp [go_sem])
  have d2 : w1.cell? ⟨w.heap.size + 1, 2, none⟩ = some (.int .i64 0) := keep_below hb1 (by simp [go_sem])
  have d3 : w1.cell? ⟨w.heap.size + 1, 3, none⟩ = some (.int .i64 0) := keep_below hb1 (by simp [go_sem])
  have d4 : w1.cell? ⟨w.heap.size + 1, 4, none⟩ = some (.int .i64 0) := keep_below hb1 (by simp [go_sem])
  have d5 : w1.cell? ⟨w.heap.size + 1, 5, none⟩ = some (.int .i64 0) := keep_below hb1 (by simp [go_sem])
  have e0 : w1.cell? ⟨w.heap.size + 1 + 1, 0, none⟩ = some (.int .i64 0) := keep_below hb1 (by simp [go_sem])
  have e1 : w1.cell? ⟨w.heap.size + 1 + 1, 1, none⟩ = some (.int .i64 0) := keep_below hb1 (by simp [go_sem])
  have e2 : w1.cell? ⟨w.heap.size + 1 + 1, 2, none⟩ = some (.int .i64 0) := keep_below hb1 (by simp [go_sem])
  have e3 : w1.cell? ⟨w.heap.size + 1 + 1, 3, none⟩ = some (.int .i64 0) := keep_below hb1 (by simp [go_sem])
  have e4 : w1.cell? ⟨w.heap.size + 1 + 1, 4, none⟩ = some (.int .i64 0) := keep_below hb1 (by simp [go_sem])
  have e5 : w1.cell? ⟨w.heap.size + 1 + 1, 5, none⟩ = some (.int .i64 0) := keep_below hb1 (by simp [go_sem])
  obtain ⟨hc1, hf1⟩ := bcell hb1
  have B1 : Below w.heap.size w w1 := below_chain (by (repeat first | (with_reducible assumption) | (with_reducible exact Below.refl _ _) | ((with_reducible refine bl_alloc _ ?_ ?_); focus (first | (simp; done) | (simp; omega) | omega)) | ((with_reducible refine bl_set _ ?_ ?_); focus (first | (simp; done) | (simp; omega) | omega)) | (with_reducible refine Below.drew ?_) | (with_reducible refine bl_drewN _ ?_))) hb1
  have y0 := there c0
  have y1 := there d0
  have y2 := there e0
  clear hb1
  go_wp2_with fail
  refine (toIntA3_any (fun i => r (3 + i)) _).mono ?_
  rintro e w2 ⟨rfl, hb2⟩
  have g0 : w2.cell? ⟨w.heap.size + 1 + 1, 0, none⟩ = some (.int .i64 (r 0)) := keep_below hb2 (by simp [go_sem, *])
  have g1 : w2.cell? ⟨w.heap.size + 1 + 1, 1, none⟩ = some (.int .i64 (r 1)) := keep_below hb2 (by simp [go_sem, *])
  have g2 : w2.cell? ⟨w.heap.size + 1 + 1, 2, none⟩ = some (.int .i64 (r 2)) := keep_below hb2 (by simp [go_sem, *])
  have g3 : w2.cell? ⟨w.heap.size + 1 + 1, 3, none⟩ = some (.int .i64 (0)) := keep_below hb2 (by simp [go_sem, *])
  have g4 : w2.cell? ⟨w.heap.size + 1 + 1, 4, none⟩ = some (.int .i64 (0)) := keep_below hb2 (by simp [go_sem, *])
  have g5 : w2.cell? ⟨w.heap.size + 1 + 1, 5, none⟩ = some (.int .i64 (0)) := keep_below hb2 (by simp [go_sem, *])
  have h0 : w2.cell? ⟨w.heap.size + 1, 0, none⟩ = some (.int .i64 0) := keep_below hb2 (by simp [go_sem, *])
  have h1 : w2.cell? ⟨w.heap.size + 1, 1, none⟩ = some (.int .i64 0) := keep_below hb2 (by simp [go_sem, *])
  have h2 : w2.cell? ⟨w.heap.size + 1, 2, none⟩ = some (.int .i64 0) := keep_below hb2 (by simp [go_sem, *])
  have h3 : w2.cell? ⟨w.heap.size + 1, 3, none⟩ = some (.int .i64 0) := keep_below hb2 (by simp [go_sem, *])
  have h4 : w2.cell? ⟨w.heap.size + 1, 4, none⟩ = some (.int .i64 0) := keep_below hb2 (by simp [go_sem, *])
  have h5 : w2.cell? ⟨w.heap.size + 1, 5, none⟩ = some (.int .i64 0) := keep_below hb2 (by simp [go_sem, *])
  have fg0 : w2.frozen? ⟨w.heap.size + 1 + 1, 0, none⟩ = false := (hb2.frozen (there (W := _) (v := .int .i64 (r 0)) (by simp [go_sem, *]))).trans (by simp [go_sem, *])
  have fg1 : w2.frozen? ⟨w.heap.size + 1 + 1, 1, none⟩ = false := (hb2.frozen (there (W := _) (v := .int .i64 (r 1)) (by simp [go_sem, *]))).trans (by simp [go_sem, *])
  have fg2 : w2.frozen? ⟨w.heap.size + 1 + 1, 2, none⟩ = false := (hb2.frozen (there (W := _) (v := .int .i64 (r 2)) (by simp [go_sem, *]))).trans (by simp [go_sem, *])
  have fg3 : w2.frozen? ⟨w.heap.size + 1 + 1, 3, none⟩ = false := (hb2.frozen (there (W := _) (v := .int .i64 (0)) (by simp [go_sem, *]))).trans (by simp [go_sem, *])
  have fg4 : w2.frozen? ⟨w.heap.size + 1 + 1, 4, none⟩ = false := (hb2.frozen (there (W := _) (v := .int .i64 (0)) (by simp [go_sem, *]))).trans (by simp [go_sem, *])
  have fg5 : w2.frozen? ⟨w.heap.size + 1 + 1, 5, none⟩ = false := (hb2.frozen (there (W := _) (v := .int .i64 (0)) (by simp [go_sem, *]))).trans (by simp [go_sem, *])
  have fh0 : w2.frozen? ⟨w.heap.size + 1, 0, none⟩ = false := (hb2.frozen (there (W := _) (v := .int .i64 0) (by simp [go_sem, *]))).trans (by simp [go_sem, *])
  have fh1 : w2.frozen? ⟨w.heap.size + 1, 1, none⟩ = false := (hb2.frozen (there (W := _) (v := .int .i64 0) (by simp [go_sem, *]))).trans (by simp [go_sem, *])
  have fh2 : w2.frozen? ⟨w.heap.size + 1, 2, none⟩ = false := (hb2.frozen (there (W := _) (v := .int .i64 0) (by simp [go_sem, *]))).trans (by simp [go_sem, *])
  have fh3 : w2.frozen? ⟨w.heap.size + 1, 3, none⟩ = false := (hb2.frozen (there (W := _) (v := .int .i64 0) (by simp [go_sem, *]))).trans (by simp [go_sem, *])
  have fh4 : w2.frozen? ⟨w.heap.size + 1, 4, none⟩ = false := (hb2.frozen (there (W := _) (v := .int .i64 0) (by simp [go_sem, *]))).trans (by simp [go_sem, *])
  have fh5 : w2.frozen? ⟨w.heap.size + 1, 5, none⟩ = false := (hb2.frozen (there (W := _) (v := .int .i64 0) (by simp [go_sem, *]))).trans (by simp [go_sem, *])
  have B2 : Below w.heap.size w w2 := below_chain (by (repeat first | (with_reducible assumption) | (with_reducible exact Below.refl _ _) | ((with_reducible refine bl_alloc _ ?_ ?_); focus (first | (simp; done) | (simp; omega) | omega)) | ((with_reducible refine bl_set _ ?_ ?_); focus (first | (simp; done) | (simp; omega) | omega)) | (with_reducible refine Below.drew ?_) | (with_reducible refine bl_drewN _ ?_))) hb2
  clear hb2 hc1 hf1
  go_wp2_with fail
  refine bodyPost_ret (v := A6 r) (by simp [results, Try.results32, go_sem, *]) rfl ⟨rfl, by (repeat first | (with_reducible assumption) | (with_reducible exact Below.refl _ _) | ((with_reducible refine bl_alloc _ ?_ ?_); focus (first | (simp; done) | (simp; omega) | omega)) | ((with_reducible refine bl_set _ ?_ ?_); focus (first | (simp; done) | (simp; omega) | omega)) | (with_reducible refine Below.drew ?_) | (with_reducible refine bl_drewN _ ?_))⟩

theorem eqIntA3_same (g : Nat → Int) (w : World) : Calls Try.prog 72 #[A3 g, A3 g] w fun e w' => e = .returned (.bool true) ∧ Below w.heap.size w w' := by
  all_goals
    go_enter Try.func72, Try.ntmps72
    go_wp2_with fail
    refine wp_loop_rounds 4 ?_
    go_wp2_with (first | (rw [rounds_succ]) | (go_quiet (fail)))
    all_goals (go_ret; exact ⟨ret_bool (by rfl), by (repeat first | (with_reducible assumption) | (with_reducible exact Below.refl _ _) | ((with_reducible refine bl_alloc _ ?_ ?_); focus (first | (simp; done) | (simp; omega) | omega)) | ((with_reducible refine bl_set _ ?_ ?_); focus (first | (simp; done) | (simp; omega) | omega)) | (with_reducible refine Below.drew ?_) | (with_reducible refine bl_drewN _ ?_))⟩)

set_option maxHeartbeats 1600000 in
theorem isRopes_any (r : Nat → Int) (w : World) : Calls Try.prog 69 #[A6 r] w fun e w' => e = .returned (.bool (isRopesB r)) ∧ Below w.heap.size w w' := by
  have i0 : ∀ w : World, (Instr.index 41 (.agg #[.int .i64 (r 0), .int .i64 (r 1), .int .i64 (r 2)]) (.int .i64 0)).run Try.prog w = .ok (.int .i64 (r 0)) w := fun _ => by kernel_rfl
  have i1 : ∀ w : World, (Instr.index 41 (.agg #[.int .i64 (r 0), .int .i64 (r 1), .int .i64 (r 2)]) (.int .i64 1)).run Try.prog w = .ok (.int .i64 (r 1)) w := fun _ => by kernel_rfl
  have i2 : ∀ w : World, (Instr.index 41 (.agg #[.int .i64 (r 0), .int .i64 (r 1), .int .i64 (r 2)]) (.int .i64 2)).run Try.prog w = .ok (.int .i64 (r 2)) w := fun _ => by kernel_rfl
  cases z0 : (r 0 == 0) <;> cases z1 : (r 1 == 0) <;> cases z2 : (r 2 == 0)
  all_goals
    go_enter Try.func69, Try.ntmps69
    go_wp2_with fail
    refine wp_loop_rounds 4 ?_
    go_wp2_with (first | (rw [rounds_succ]) | (go_at_call 56; refine (within_any _ _ _ _).mono ?_; rintro e w' ⟨rfl, rfl⟩))
    all_goals (go_ret; exact ⟨ret_bool (by simp_all [isRopesB, ropeB]), by (repeat first | (with_reducible assumption) | (with_reducible exact Below.refl _ _) | ((with_reducible refine bl_alloc _ ?_ ?_); focus (first | (simp; done) | (simp; omega) | omega)) | ((with_reducible refine bl_set _ ?_ ?_); focus (first | (simp; done) | (simp; omega) | omega)) | (with_reducible refine Below.drew ?_) | (with_reducible refine bl_drewN _ ?_))⟩)

set_option maxHeartbeats 1600000 in
theorem l5Good_any (r : Nat → Int) (w : World) : Calls Try.prog 66 #[A6 r] w fun e w' => e = .returned (.bool (isRopesB r)) ∧ Below w.heap.size w w' := by
  cases z0 : (r 0 == 0) <;> cases z1 : (r 1 == 0) <;> cases z2 : (r 2 == 0)
  all_goals
    go_enter Try.func66, Try.ntmps66
    go_wp2_with fail
    refine wp_loop_rounds 4 ?_
    go_wp2_with (first | (rw [rounds_succ]) | (go_at_call 53; refine (l1In_any _ _ _ _).mono ?_; rintro e w' ⟨rfl, rfl⟩))
    all_goals (go_ret; exact ⟨ret_bool (by first | (simp_all [isRopesB, ropeB]; done) | (simp_all [isRopesB, ropeB, inB]; omega)), by (repeat first | (with_reducible assumption) | (with_reducible exact Below.refl _ _) | ((with_reducible refine bl_alloc _ ?_ ?_); focus (first | (simp; done) | (simp; omega) | omega)) | ((with_reducible refine bl_set _ ?_ ?_); focus (first | (simp; done) | (simp; omega) | omega)) | (with_reducible refine Below.drew ?_) | (with_reducible refine bl_drewN _ ?_))⟩)

theorem eqRopes_same (r : Nat → Int) (w : World) : Calls Try.prog 34 #[A6 r, A6 r] w fun e w' => e = .returned (.bool true) ∧ Below w.heap.size w w' := by
  go_enter Try.func34, Try.ntmps34
  go_wp2_with fail
  refine (eqIntA3_same r _).mono ?_
  rintro e w1 ⟨rfl, hb1⟩
  have cw100 : w1.cell? ⟨w.heap.size, 0, none⟩ = some (.int .i64 (r 0)) := keep_below hb1 (by first | (with_reducible assumption) | (simp [go_sem]; done))
  have cw101 : w1.cell? ⟨w.heap.size, 1, none⟩ = some (.int .i64 (r 1)) := keep_below hb1 (by first | (with_reducible assumption) | (simp [go_sem]; done))
  have cw102 : w1.cell? ⟨w.heap.size, 2, none⟩ = some (.int .i64 (r 2)) := keep_below hb1 (by first | (with_reducible assumption) | (simp [go_sem]; done))
  have cw103 : w1.cell? ⟨w.heap.size, 3, none⟩ = some (.int .i64 (r 3)) := keep_below hb1 (by first | (with_reducible assumption) | (simp [go_sem]; done))
  have cw104 : w1.cell? ⟨w.heap.size, 4, none⟩ = some (.int .i64 (r 4)) := keep_below hb1 (by first | (with_reducible assumption) | (simp [go_sem]; done))
  have cw105 : w1.cell? ⟨w.heap.size, 5, none⟩ = some (.int .i64 (r 5)) := keep_below hb1 (by first | (with_reducible assumption) | (simp [go_sem]; done))
  have cw110 : w1.cell? ⟨w.heap.size + 1, 0, none⟩ = some (.int .i64 (r 0)) := keep_below hb1 (by first | (with_reducible assumption) | (simp [go_sem]; done))
  have cw111 : w1.cell? ⟨w.heap.size + 1, 1, none⟩ = some (.int .i64 (r 1)) := keep_below hb1 (by first | (with_reducible assumption) | (simp [go_sem]; done))
  have cw112 : w1.cell? ⟨w.heap.size + 1, 2, none⟩ = some (.int .i64 (r 2)) := keep_below hb1 (by first | (with_reducible assumption) | (simp [go_sem]; done))
  have cw113 : w1.cell? ⟨w.heap.size + 1, 3, none⟩ = some (.int .i64 (r 3)) := keep_below hb1 (by first | (with_reducible assumption) | (simp [go_sem]; done))
  have cw114 : w1.cell? ⟨w.heap.size + 1, 4, none⟩ = some (.int .i64 (r 4)) := keep_below hb1 (by first | (with_reducible assumption) | (simp [go_sem]; done))
  have cw115 : w1.cell? ⟨w.heap.size + 1, 5, none⟩ = some (.int .i64 (r 5)) := keep_below hb1 (by first | (with_reducible assumption) | (simp [go_sem]; done))
  have Bw1 : Below w.heap.size w w1 := below_chain (by (repeat first | (with_reducible assumption) | (with_reducible exact Below.refl _ _) | ((with_reducible refine bl_alloc _ ?_ ?_); focus (first | (simp; done) | (simp; omega) | omega)) | ((with_reducible refine bl_set _ ?_ ?_); focus (first | (simp; done) | (simp; omega) | omega)) | (with_reducible refine Below.drew ?_) | (with_reducible refine bl_drewN _ ?_))) hb1
  clear hb1
  go_wp2_with fail
  refine (eqIntA3_same (fun i => r (3 + i)) _).mono ?_
  rintro e w2 ⟨rfl, hb2⟩
  have cw200 : w2.cell? ⟨w.heap.size, 0, none⟩ = some (.int .i64 (r 0)) := keep_below hb2 (by first | (with_reducible assumption) | (simp [go_sem]; done))
  have cw201 : w2.cell? ⟨w.heap.size, 1, none⟩ = some (.int .i64 (r 1)) := keep_below hb2 (by first | (with_reducible assumption) | (simp [go_sem]; done))
  have cw202 : w2.cell? ⟨w.heap.size, 2, none⟩ = some (.int .i64 (r 2)) := keep_below hb2 (by first | (with_reducible assumption) | (simp [go_sem]; done))
  have cw203 : w2.cell? ⟨w.heap.size, 3, none⟩ = some (.int .i64 (r 3)) := keep_below hb2 (by first | (with_reducible assumption) | (simp [go_sem]; done))
  have cw204 : w2.cell? ⟨w.heap.size, 4, none⟩ = some (.int .i64 (r 4)) := keep_below hb2 (by first | (with_reducible assumption) | (simp [go_sem]; done))
  have cw205 : w2.cell? ⟨w.heap.size, 5, none⟩ = some (.int .i64 (r 5)) := keep_below hb2 (by first | (with_reducible assumption) | (simp [go_sem]; done))
  have cw210 : w2.cell? ⟨w.heap.size + 1, 0, none⟩ = some (.int .i64 (r 0)) := keep_below hb2 (by first | (with_reducible assumption) | (simp [go_sem]; done))
  have cw211 : w2.cell? ⟨w.heap.size + 1, 1, none⟩ = some (.int .i64 (r 1)) := keep_below hb2 (by first | (with_reducible assumption) | (simp [go_sem]; done))
  have cw212 : w2.cell? ⟨w.heap.size + 1, 2, none⟩ = some (.int .i64 (r 2)) := keep_below hb2 (by first | (with_reducible assumption) | (simp [go_sem]; done))
  have cw213 : w2.cell? ⟨w.heap.size + 1, 3, none⟩ = some (.int .i64 (r 3)) := keep_below hb2 (by first | (with_reducible assumption) | (simp [go_sem]; done))
  have cw214 : w2.cell? ⟨w.heap.size + 1, 4, none⟩ = some (.int .i64 (r 4)) := keep_below hb2 (by first | (with_reducible assumption) | (simp [go_sem]; done))
  have cw215 : w2.cell? ⟨w.heap.size + 1, 5, none⟩ = some (.int .i64 (r 5)) := keep_below hb2 (by first | (with_reducible assumption) | (simp [go_sem]; done))
  have Bw2 : Below w.heap.size w w2 := below_chain (by (repeat first | (with_reducible assumption) | (with_reducible exact Below.refl _ _) | ((with_reducible refine bl_alloc _ ?_ ?_); focus (first | (simp; done) | (simp; omega) | omega)) | ((with_reducible refine bl_set _ ?_ ?_); focus (first | (simp; done) | (simp; omega) | omega)) | (with_reducible refine Below.drew ?_) | (with_reducible refine bl_drewN _ ?_))) hb2
  clear hb2
  go_wp2_with fail
  go_ret
  exact ⟨rfl, by (repeat first | (with_reducible assumption) | (with_reducible exact Below.refl _ _) | ((with_reducible refine bl_alloc _ ?_ ?_); focus (first | (simp; done) | (simp; omega) | omega)) | ((with_reducible refine bl_set _ ?_ ?_); focus (first | (simp; done) | (simp; omega) | omega)) | (with_reducible refine Below.drew ?_) | (with_reducible refine bl_drewN _ ?_))⟩

end Go.Proofs.Ytncjoipckkkmjaa
