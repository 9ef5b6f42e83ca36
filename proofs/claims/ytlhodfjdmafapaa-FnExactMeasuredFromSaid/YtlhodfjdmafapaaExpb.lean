/- Contracts: greatest common divisors, running sets, scaled kits, moments and steps. No statement of the seat is proved here. -/
import Derived.Test.YtlhodfjdmafapaaExp
import Derived.Test.YtlhodfjdmafapaaBaseTwo
import Derived.Deep.RegionHeld3
namespace Go.Proofs.Ytlhodfjdmafapaa
open Go.RowKit
set_option linter.unusedVariables false

theorem l2Sand_sw (k s : Nat → Int) (w : World) : Calls Try.prog 49 #[A4 k, A4 s] w fun e w' => e = .returned (.bool (isKitB k && isSandB k s)) ∧ Below w.heap.size w w' := by
  rw [Bool.and_comm]; exact l2Sand_any k s w

theorem ret_pair {a b : Int} {x : Bool} (h : a = b) : Ending.returned (.tuple #[.int .i64 a, .bool x]) = .returned (.tuple #[.int .i64 b, .bool x]) := by rw [h]

theorem l2Pass_min (k s : Nat → Int) (d : Int) (hs : Sand k s) (hd : 0 ≤ d) (w : World) : Calls Try.prog 85 #[A4 s, .int .i64 (min d 30)] w fun e w' => e = .returned (A4 (passF s d)) ∧ Below w.heap.size w w' := by
  have pe : ∀ i, i < 4 → passF s (min d 30) i = passF s d i := fun i hi => by have := hs.hi i hi; have := hs.top i hi; unfold passF; omega
  have h := l2Pass_any k s (min d 30) hs (by omega) (by omega) w
  unfold A4 at h ⊢
  rw [pe 0 (by omega), pe 1 (by omega), pe 2 (by omega), pe 3 (by omega)] at h
  exact h

theorem l1Least_q (a b : Int) (w : World) : Calls Try.prog 100 #[.int .i64 a, .int .i64 b] w fun e w' => e = .returned (.int .i64 (min a b)) ∧ Below w.heap.size w w' := (l1Least_any a b w).mono fun _ _ ⟨h, hw⟩ => ⟨h, hw ▸ Below.refl _ _⟩

theorem calm_any (w : World) : Calls Try.prog 47 #[] w fun e w' => e = .returned (A4 (fun _ => 0)) ∧ Below w.heap.size w w' := by
  go_enter Try.func47, Try.ntmps47
  go_wp2_with fail
  refine bodyPost_ret (v := A4 (fun _ => 0)) (by simp [results, Try.results47, go_sem]) rfl ⟨rfl, by (repeat first | (with_reducible assumption) | (with_reducible exact Below.refl _ _) | ((with_reducible refine bl_alloc _ ?_ ?_); focus (first | (simp; done) | (simp; omega) | omega)) | ((with_reducible refine bl_set _ ?_ ?_); focus (first | (simp; done) | (simp; omega) | omega)) | (with_reducible refine Below.drew ?_) | (with_reducible refine bl_drewN _ ?_))⟩

end Go.Proofs.Ytlhodfjdmafapaa
