/- Contracts: greatest common divisors, running sets, scaled kits, moments and steps. No statement of the seat is proved here. -/
import Derived.Test.YtekbfekghheejaaExp
import Derived.Test.YtekbfekghheejaaBaseTwo
import Derived.Deep.RegionHeld3
namespace Go.Proofs.Ytekbfekghheejaa
open Go.RowKit
set_option linter.unusedVariables false

theorem l2Sand_sw (k s : Nat → Int) (w : World) : Calls Try.prog 38 #[A4 k, A4 s] w fun e w' => e = .returned (.bool (isKitB k && isSandB k s)) ∧ Below w.heap.size w w' := by
  rw [Bool.and_comm]; exact l2Sand_any k s w

theorem ret_pair {a b : Int} {x : Bool} (h : a = b) : Ending.returned (.tuple #[.int .i64 a, .bool x]) = .returned (.tuple #[.int .i64 b, .bool x]) := by rw [h]

theorem running_any (s : Nat → Int) (w : World) : Calls Try.prog 71 #[A4 s] w fun e w' => e = .returned (.int .i64 (allOf s)) ∧ Below w.heap.size w w' := by
  have i0 : ∀ w : World, (Instr.index 22 (A4 s) (.int .i64 0)).run Try.prog w = .ok (.int .i64 (s 0)) w := fun _ => by kernel_rfl
  have i1 : ∀ w : World, (Instr.index 22 (A4 s) (.int .i64 1)).run Try.prog w = .ok (.int .i64 (s 1)) w := fun _ => by kernel_rfl
  have i2 : ∀ w : World, (Instr.index 22 (A4 s) (.int .i64 2)).run Try.prog w = .ok (.int .i64 (s 2)) w := fun _ => by kernel_rfl
  have i3 : ∀ w : World, (Instr.index 22 (A4 s) (.int .i64 3)).run Try.prog w = .ok (.int .i64 (s 3)) w := fun _ => by kernel_rfl
  go_enter Try.func71, Try.ntmps71
  go_wp2_with fail
  refine wp_loop_rounds 5 ?_
  go_wp2_with (first | (rw [rounds_succ]))
  all_goals (go_ret; exact ⟨ret_int (by unfold allOf; (iterate 4 (first | rw [if_pos (by assumption)] | rw [if_neg (by omega)])); try first | rfl | decide), by (repeat first | (with_reducible assumption) | (with_reducible exact Below.refl _ _) | ((with_reducible refine bl_alloc _ ?_ ?_); focus (first | (simp; done) | (simp; omega) | omega)) | ((with_reducible refine bl_set _ ?_ ?_); focus (first | (simp; done) | (simp; omega) | omega)) | (with_reducible refine Below.drew ?_) | (with_reducible refine bl_drewN _ ?_))⟩)

theorem l2Pass_min (k s : Nat → Int) (d : Int) (hs : Sand k s) (hd : 0 ≤ d) (w : World) : Calls Try.prog 88 #[A4 s, .int .i64 (min d 30)] w fun e w' => e = .returned (A4 (passF s d)) ∧ Below w.heap.size w w' := by
  have pe : ∀ i, i < 4 → passF s (min d 30) i = passF s d i := fun i hi => by have := hs.hi i hi; have := hs.top i hi; unfold passF; omega
  have h := l2Pass_any k s (min d 30) hs (by omega) (by omega) w
  unfold A4 at h ⊢
  rw [pe 0 (by omega), pe 1 (by omega), pe 2 (by omega), pe 3 (by omega)] at h
  exact h

end Go.Proofs.Ytekbfekghheejaa
