/- Contracts: greatest common divisors, running sets, scaled kits, moments and steps. No statement of the seat is proved here. -/
import Derived.Test.YtdbnajaimodnmaaExp
import Derived.Test.YtdbnajaimodnmaaBaseTwo
import Derived.Deep.RegionHeld3
namespace Go.Proofs.Ytdbnajaimodnmaa
open Go.RowKit
set_option linter.unusedVariables false

theorem l2Sand_sw (k s : Nat → Int) (w : World) : Calls Try.prog 29 #[A4 k, A4 s] w fun e w' => e = .returned (.bool (isKitB k && isSandB k s)) ∧ Below w.heap.size w w' := by
  rw [Bool.and_comm]; exact l2Sand_any k s w

theorem ret_pair {a b : Int} {x : Bool} (h : a = b) : Ending.returned (.tuple #[.int .i64 a, .bool x]) = .returned (.tuple #[.int .i64 b, .bool x]) := by rw [h]

theorem l2Pass_min (k s : Nat → Int) (d : Int) (hs : Sand k s) (hd : 0 ≤ d) (w : World) : Calls Try.prog 71 #[A4 s, .int .i64 (min d 30)] w fun e w' => e = .returned (A4 (passF s d)) ∧ Below w.heap.size w w' := by
  have pe : ∀ i, i < 4 → passF s (min d 30) i = passF s d i := fun i hi => by have := hs.hi i hi; have := hs.top i hi; unfold passF; omega
  have h := l2Pass_any k s (min d 30) hs (by omega) (by omega) w
  unfold A4 at h ⊢
  rw [pe 0 (by omega), pe 1 (by omega), pe 2 (by omega), pe 3 (by omega)] at h
  exact h

end Go.Proofs.Ytdbnajaimodnmaa
