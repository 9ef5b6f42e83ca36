/- Contracts of the functions that turn glasses. No statement of the seat is proved here. -/
import Derived.Test.YtlhodfjdmafapaaKit
namespace Go.Proofs.Ytlhodfjdmafapaa
open Go.RowKit
set_option linter.unusedVariables false
set_option maxHeartbeats 1600000 in
theorem turn_any (k s : Nat → Int) (set : Int) (hs : Sand k s) (w : World) : Calls Try.prog 91 #[A4 k, A4 s, .int .i64 set] w fun e w' => e = .returned (A4 (turnF k s set)) ∧ Below w.heap.size w w' := by
  obtain ⟨hlo, hhi, htop⟩ := hs
  have lo0 := hlo 0 (by omega)
  have hi0 := hhi 0 (by omega)
  have tp0 := htop 0 (by omega)
  have lo1 := hlo 1 (by omega)
  have hi1 := hhi 1 (by omega)
  have tp1 := htop 1 (by omega)
  have lo2 := hlo 2 (by omega)
  have hi2 := hhi 2 (by omega)
  have tp2 := htop 2 (by omega)
  have lo3 := hlo 3 (by omega)
  have hi3 := hhi 3 (by omega)
  have tp3 := htop 3 (by omega)
  clear hlo hhi htop
  have i0 : ∀ w : World, (Instr.index 22 (A4 k) (.int .i64 0)).run Try.prog w = .ok (.int .i64 (k 0)) w := fun _ => by kernel_rfl
  have i1 : ∀ w : World, (Instr.index 22 (A4 k) (.int .i64 1)).run Try.prog w = .ok (.int .i64 (k 1)) w := fun _ => by kernel_rfl
  have i2 : ∀ w : World, (Instr.index 22 (A4 k) (.int .i64 2)).run Try.prog w = .ok (.int .i64 (k 2)) w := fun _ => by kernel_rfl
  have i3 : ∀ w : World, (Instr.index 22 (A4 k) (.int .i64 3)).run Try.prog w = .ok (.int .i64 (k 3)) w := fun _ => by kernel_rfl
  cases t0 : (bits BinOp.and IntKind.i64 set 1 == 1) <;> cases t1 : (bits BinOp.and IntKind.i64 (set / 2) 1 == 1) <;> cases t2 : (bits BinOp.and IntKind.i64 (set / 4) 1 == 1) <;> cases t3 : (bits BinOp.and IntKind.i64 (set / 8) 1 == 1)
  all_goals
    go_enter Try.func91, Try.ntmps91
    go_wp2_with fail
    refine wp_loop_rounds 5 ?_
    go_wp2_with (first | (rw [rounds_succ]))
    refine bodyPost_ret (v := A4 (turnF k s set)) (by simp [results, Try.results91, go_sem, turnF, tb, t0, t1, t2, t3]) rfl ⟨rfl, by (repeat first | (with_reducible assumption) | (with_reducible exact Below.refl _ _) | ((with_reducible refine bl_alloc _ ?_ ?_); focus (first | (simp; done) | (simp; omega) | omega)) | ((with_reducible refine bl_set _ ?_ ?_); focus (first | (simp; done) | (simp; omega) | omega)) | (with_reducible refine Below.drew ?_) | (with_reducible refine bl_drewN _ ?_))⟩

set_option maxHeartbeats 1600000 in
theorem l2Turn_any (k s : Nat → Int) (set : Int) (hs : Sand k s) (w : World) : Calls Try.prog 83 #[A4 k, A4 s, .int .i64 set] w fun e w' => e = .returned (A4 (turnF k s set)) ∧ Below w.heap.size w w' := by
  obtain ⟨hlo, hhi, htop⟩ := hs
  have lo0 := hlo 0 (by omega)
  have hi0 := hhi 0 (by omega)
  have tp0 := htop 0 (by omega)
  have lo1 := hlo 1 (by omega)
  have hi1 := hhi 1 (by omega)
  have tp1 := htop 1 (by omega)
  have lo2 := hlo 2 (by omega)
  have hi2 := hhi 2 (by omega)
  have tp2 := htop 2 (by omega)
  have lo3 := hlo 3 (by omega)
  have hi3 := hhi 3 (by omega)
  have tp3 := htop 3 (by omega)
  clear hlo hhi htop
  cases t0 : (bits BinOp.and IntKind.i64 set 1 == 1) <;> cases t1 : (bits BinOp.and IntKind.i64 (set / 2) 1 == 1) <;> cases t2 : (bits BinOp.and IntKind.i64 (set / 4) 1 == 1) <;> cases t3 : (bits BinOp.and IntKind.i64 (set / 8) 1 == 1)
  all_goals
    go_enter Try.func83, Try.ntmps83
    go_wp2_with fail
    refine wp_loop_rounds 5 ?_
    go_wp2_with (first | (rw [rounds_succ]) | (go_region))
    refine bodyPost_ret (v := A4 (turnF k s set)) (by simp [results, Try.results83, go_sem, turnF, tb, t0, t1, t2, t3]) rfl ⟨rfl, by (repeat first | (with_reducible assumption) | (with_reducible exact Below.refl _ _) | ((with_reducible refine bl_alloc _ ?_ ?_); focus (first | (simp; done) | (simp; omega) | omega)) | ((with_reducible refine bl_set _ ?_ ?_); focus (first | (simp; done) | (simp; omega) | omega)) | (with_reducible refine Below.drew ?_) | (with_reducible refine bl_drewN _ ?_))⟩

end Go.Proofs.Ytlhodfjdmafapaa
