/- Plain words and a few contracts more: rows of four compared, steady turning. No statement of the seat is proved here. -/
import Derived.Test.YtlhodfjdmafapaaExpb
import Derived.Test.YtlhodfjdmafapaaWWords
namespace Go.Proofs.Ytlhodfjdmafapaa
open Go.RowKit
set_option linter.unusedVariables false
set_option linter.unusedSimpArgs false
def v4 (a b c d : Int) : Nat → Int
  | 0 => a
  | 1 => b
  | 2 => c
  | _ => d
def v3 (a b c : Int) : Nat → Int
  | 0 => a
  | 1 => b
  | _ => c
def v6 (a b c d e f : Int) : Nat → Int
  | 0 => a
  | 1 => b
  | 2 => c
  | 3 => d
  | 4 => e
  | _ => f
theorem sand_of' {k s : Nat → Int} (g : (isKitB k && isSandB k s) = true) : Sand k s := by
  rw [Bool.and_eq_true] at g; exact sand_of g.1 g.2
def eq4B (g h : Nat → Int) : Bool := g 0 == h 0 && g 1 == h 1 && g 2 == h 2 && g 3 == h 3
/-- the set of all glasses of a kit that do not run -/
def steadySet (k s : Nat → Int) : Int := (if 0 < k 0 ∧ s 0 = 0 then 1 else 0) + (if 0 < k 1 ∧ s 1 = 0 then 2 else 0) + (if 0 < k 2 ∧ s 2 = 0 then 4 else 0) + (if 0 < k 3 ∧ s 3 = 0 then 8 else 0)

set_option maxHeartbeats 1600000 in
theorem eqIntA4_any (g h : Nat → Int) (w : World) : Calls Try.prog 69 #[A4 g, A4 h] w fun e w' => e = .returned (.bool (eq4B g h)) ∧ Below w.heap.size w w' := by
  cases t0 : (g 0 == h 0) <;> cases t1 : (g 1 == h 1) <;> cases t2 : (g 2 == h 2) <;> cases t3 : (g 3 == h 3)
  all_goals
    have n0 : (g 0 != h 0) = _ := congrArg not t0
    have n1 : (g 1 != h 1) = _ := congrArg not t1
    have n2 : (g 2 != h 2) = _ := congrArg not t2
    have n3 : (g 3 != h 3) = _ := congrArg not t3
    simp only [Bool.not_true, Bool.not_false] at n0 n1 n2 n3
    go_enter Try.func69, Try.ntmps69
    go_wp2_with fail
    refine wp_loop_rounds 5 ?_
    go_wp2_with (first | (go_quiet (fail)) | (rw [rounds_succ]))
    go_ret
    exact ⟨ret_bool (by simp [eq4B, *]), by (repeat first | (with_reducible assumption) | (with_reducible exact Below.refl _ _) | ((with_reducible refine bl_alloc _ ?_ ?_); focus (first | (simp; done) | (simp; omega) | omega)) | ((with_reducible refine bl_set _ ?_ ?_); focus (first | (simp; done) | (simp; omega) | omega)) | (with_reducible refine Below.drew ?_) | (with_reducible refine bl_drewN _ ?_))⟩

/-- the search for what does not run, as the code makes it -/
def steadyTo (k s : Nat → Int) : Nat → Int
  | 0 => 0
  | j + 1 => if 0 < k j ∧ s j = 0 then bits BinOp.or IntKind.i64 (steadyTo k s j) (2 ^ j) else steadyTo k s j
theorem steady_four (k s : Nat → Int) : steadyTo k s 4 = steadySet k s := by
  unfold steadySet
  by_cases c0 : 0 < k 0 ∧ s 0 = 0 <;> by_cases c1 : 0 < k 1 ∧ s 1 = 0 <;> by_cases c2 : 0 < k 2 ∧ s 2 = 0 <;> by_cases c3 : 0 < k 3 ∧ s 3 = 0
  all_goals
    simp only [steadyTo, if_pos, if_neg, c0, c1, c2, c3, if_false, if_true, and_self, not_false_eq_true]
    first | rfl | decide
theorem bits_steady : ∀ A0 A1 A2 A3 B0 B1 B2 B3 : Bool, (B0 = true → A0 = true) → (B1 = true → A1 = true) → (B2 = true → A2 = true) → (B3 = true → A3 = true) →
    bits BinOp.andNot IntKind.i64 ((if A0 = true then 1 else 0) + (if A1 = true then 2 else 0) + (if A2 = true then 4 else 0) + (if A3 = true then 8 else 0)) ((if B0 = true then 1 else 0) + (if B1 = true then 2 else 0) + (if B2 = true then 4 else 0) + (if B3 = true then 8 else 0)) =
    (if (A0 && !B0) = true then 1 else 0) + (if (A1 && !B1) = true then 2 else 0) + (if (A2 && !B2) = true then 4 else 0) + (if (A3 && !B3) = true then 8 else 0) := by decide +kernel
theorem steady_all {k s : Nat → Int} (h : Sand k s) : bits BinOp.andNot IntKind.i64 (allOf k) (allOf s) = steadySet k s := by
  have h0 := h.lo 0 (by omega); have h1 := h.lo 1 (by omega); have h2 := h.lo 2 (by omega); have h3 := h.lo 3 (by omega)
  have g0 := h.hi 0 (by omega); have g1 := h.hi 1 (by omega); have g2 := h.hi 2 (by omega); have g3 := h.hi 3 (by omega)
  have key : ∀ i, i < 4 → (s i = 0 ↔ ¬ 0 < s i) := fun i hi => by have := h.lo i hi; omega
  unfold steadySet allOf
  simp only [key 0 (by omega), key 1 (by omega), key 2 (by omega), key 3 (by omega)]
  have m0 : 0 < s 0 → 0 < k 0 := by omega
  have m1 : 0 < s 1 → 0 < k 1 := by omega
  have m2 : 0 < s 2 → 0 < k 2 := by omega
  have m3 : 0 < s 3 → 0 < k 3 := by omega
  have := bits_steady (decide (0 < k 0)) (decide (0 < k 1)) (decide (0 < k 2)) (decide (0 < k 3)) (decide (0 < s 0)) (decide (0 < s 1)) (decide (0 < s 2)) (decide (0 < s 3)) (by simpa using m0) (by simpa using m1) (by simpa using m2) (by simpa using m3)
  simpa using this

end Go.Proofs.Ytlhodfjdmafapaa
