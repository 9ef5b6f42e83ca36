/- Plain words and a few contracts more: rows of four compared, steady turning. No statement of the seat is proved here. -/
import Derived.Test.YtlhodfjdmafapaaMGlass
import Derived.Test.YtlhodfjdmafapaaWWords
section
namespace Go.Proofs.Ytlhodfjdmafapaa
open Go.RowKit
set_option linter.unusedVariables false
set_option linter.unusedSimpArgs false
def v4 (a b c d : Int) : Nat → Int
  | 0 => a
  | 1 => b
  | 2 => c
  | _ => d
def v3 (a b c : Int) : Nat → Int
  | 0 => a
  | 1 => b
  | _ => c
def v6 (a b c d e f : Int) : Nat → Int
  | 0 => a
  | 1 => b
  | 2 => c
  | 3 => d
  | 4 => e
  | _ => f
theorem sand_of' {k s : Nat → Int} (g : (isKitB k && isSandB k s) = true) : Sand k s := by
  rw [Bool.and_eq_true] at g; exact sand_of g.1 g.2
end Go.Proofs.Ytlhodfjdmafapaa
end
section
namespace Go.Proofs.Ytlhodfjdmafapaa
open Go.RowKit
set_option linter.unusedVariables false
set_option linter.unusedSimpArgs false

def xToIntA4.f (a0_0 a0_1 a0_2 a0_3 : Int) : Option (Int × Int × Int × Int) := some (((v4 a0_0 a0_1 a0_2 a0_3)) 0, ((v4 a0_0 a0_1 a0_2 a0_3)) 1, ((v4 a0_0 a0_1 a0_2 a0_3)) 2, ((v4 a0_0 a0_1 a0_2 a0_3)) 3)
theorem xToIntA4.calls (a0_0 a0_1 a0_2 a0_3 : Int) (r1 : Int) (r2 : Int) (r3 : Int) (r4 : Int) (w : World) (h : xToIntA4.f a0_0 a0_1 a0_2 a0_3 = some (r1, r2, r3, r4)) : Calls Try.prog 18 #[.agg #[.int .i64 a0_0, .int .i64 a0_1, .int .i64 a0_2, .int .i64 a0_3]] w fun e w' => e = .returned (.agg #[.int .i64 r1, .int .i64 r2, .int .i64 r3, .int .i64 r4]) ∧ Below w.heap.size w w' := by
  unfold xToIntA4.f at h
  simp only [Option.some.injEq, Prod.mk.injEq] at h
  obtain ⟨rfl, rfl, rfl, rfl⟩ := h
  exact toIntA4_any (v4 a0_0 a0_1 a0_2 a0_3) w
def xToKit.f (a0_0 a0_1 a0_2 a0_3 : Int) : Option (Int × Int × Int × Int) := some (((v4 a0_0 a0_1 a0_2 a0_3)) 0, ((v4 a0_0 a0_1 a0_2 a0_3)) 1, ((v4 a0_0 a0_1 a0_2 a0_3)) 2, ((v4 a0_0 a0_1 a0_2 a0_3)) 3)
theorem xToKit.calls (a0_0 a0_1 a0_2 a0_3 : Int) (r1 : Int) (r2 : Int) (r3 : Int) (r4 : Int) (w : World) (h : xToKit.f a0_0 a0_1 a0_2 a0_3 = some (r1, r2, r3, r4)) : Calls Try.prog 15 #[.agg #[.int .i64 a0_0, .int .i64 a0_1, .int .i64 a0_2, .int .i64 a0_3]] w fun e w' => e = .returned (.agg #[.int .i64 r1, .int .i64 r2, .int .i64 r3, .int .i64 r4]) ∧ Below w.heap.size w w' := by
  unfold xToKit.f at h
  simp only [Option.some.injEq, Prod.mk.injEq] at h
  obtain ⟨rfl, rfl, rfl, rfl⟩ := h
  exact toKit_any (v4 a0_0 a0_1 a0_2 a0_3) w
def xL2Sand.f (a0_0 a0_1 a0_2 a0_3 a1_0 a1_1 a1_2 a1_3 : Int) : Option (Bool) := some (isSandB (v4 a0_0 a0_1 a0_2 a0_3) (v4 a1_0 a1_1 a1_2 a1_3) && isKitB (v4 a0_0 a0_1 a0_2 a0_3))
theorem xL2Sand.calls (a0_0 a0_1 a0_2 a0_3 a1_0 a1_1 a1_2 a1_3 : Int) (r : Bool) (w : World) (h : xL2Sand.f a0_0 a0_1 a0_2 a0_3 a1_0 a1_1 a1_2 a1_3 = some (r)) : Calls Try.prog 49 #[.agg #[.int .i64 a0_0, .int .i64 a0_1, .int .i64 a0_2, .int .i64 a0_3], .agg #[.int .i64 a1_0, .int .i64 a1_1, .int .i64 a1_2, .int .i64 a1_3]] w fun e w' => e = .returned (.bool r) ∧ Below w.heap.size w w' := by
  unfold xL2Sand.f at h
  obtain rfl := Option.some.inj h
  exact l2Sand_any (v4 a0_0 a0_1 a0_2 a0_3) (v4 a1_0 a1_1 a1_2 a1_3) w
def xAreSand.f (a0_0 a0_1 a0_2 a0_3 a1_0 a1_1 a1_2 a1_3 : Int) : Option (Bool) := some (isKitB (v4 a0_0 a0_1 a0_2 a0_3) && isSandB (v4 a0_0 a0_1 a0_2 a0_3) (v4 a1_0 a1_1 a1_2 a1_3))
theorem xAreSand.calls (a0_0 a0_1 a0_2 a0_3 a1_0 a1_1 a1_2 a1_3 : Int) (r : Bool) (w : World) (h : xAreSand.f a0_0 a0_1 a0_2 a0_3 a1_0 a1_1 a1_2 a1_3 = some (r)) : Calls Try.prog 63 #[.agg #[.int .i64 a0_0, .int .i64 a0_1, .int .i64 a0_2, .int .i64 a0_3], .agg #[.int .i64 a1_0, .int .i64 a1_1, .int .i64 a1_2, .int .i64 a1_3]] w fun e w' => e = .returned (.bool r) ∧ Below w.heap.size w w' := by
  unfold xAreSand.f at h
  obtain rfl := Option.some.inj h
  exact areSand_any (v4 a0_0 a0_1 a0_2 a0_3) (v4 a1_0 a1_1 a1_2 a1_3) w
def xL2All.f (a0_0 a0_1 a0_2 a0_3 : Int) : Option (Int) := some (allOf (v4 a0_0 a0_1 a0_2 a0_3))
theorem xL2All.calls (a0_0 a0_1 a0_2 a0_3 : Int) (r : Int) (w : World) (h : xL2All.f a0_0 a0_1 a0_2 a0_3 = some (r)) : Calls Try.prog 86 #[.agg #[.int .i64 a0_0, .int .i64 a0_1, .int .i64 a0_2, .int .i64 a0_3]] w fun e w' => e = .returned (.int .i64 r) ∧ Below w.heap.size w w' := by
  unfold xL2All.f at h
  obtain rfl := Option.some.inj h
  exact l2All_any (v4 a0_0 a0_1 a0_2 a0_3) w
def xProduct.f (a0_0 a0_1 a0_2 a0_3 : Int) : Option (Int) := some (prodOf (v4 a0_0 a0_1 a0_2 a0_3))
theorem xProduct.calls (a0_0 a0_1 a0_2 a0_3 : Int) (r : Int) (w : World) (h : xProduct.f a0_0 a0_1 a0_2 a0_3 = some (r)) : Calls Try.prog 80 #[.agg #[.int .i64 a0_0, .int .i64 a0_1, .int .i64 a0_2, .int .i64 a0_3]] w fun e w' => e = .returned (.int .i64 r) ∧ Below w.heap.size w w' := by
  unfold xProduct.f at h
  obtain rfl := Option.some.inj h
  exact product_any (v4 a0_0 a0_1 a0_2 a0_3) w
def xL3Many.f (a0_0 a0_1 a0_2 a0_3 : Int) : Option (Int) := some (prodOf (v4 a0_0 a0_1 a0_2 a0_3))
theorem xL3Many.calls (a0_0 a0_1 a0_2 a0_3 : Int) (r : Int) (w : World) (h : xL3Many.f a0_0 a0_1 a0_2 a0_3 = some (r)) : Calls Try.prog 97 #[.agg #[.int .i64 a0_0, .int .i64 a0_1, .int .i64 a0_2, .int .i64 a0_3]] w fun e w' => e = .returned (.int .i64 r) ∧ Below w.heap.size w w' := by
  unfold xL3Many.f at h
  obtain rfl := Option.some.inj h
  exact l3Many_any (v4 a0_0 a0_1 a0_2 a0_3) w
def xIsSet.f (a0_0 a0_1 a0_2 a0_3 a1 : Int) : Option (Bool) := some (isSetB (v4 a0_0 a0_1 a0_2 a0_3) a1)
theorem xIsSet.calls (a0_0 a0_1 a0_2 a0_3 a1 : Int) (r : Bool) (w : World) (h : xIsSet.f a0_0 a0_1 a0_2 a0_3 a1 = some (r)) : Calls Try.prog 90 #[.agg #[.int .i64 a0_0, .int .i64 a0_1, .int .i64 a0_2, .int .i64 a0_3], .int .i64 a1] w fun e w' => e = .returned (.bool r) ∧ Below w.heap.size w w' := by
  unfold xIsSet.f at h
  obtain rfl := Option.some.inj h
  exact isSet_any (v4 a0_0 a0_1 a0_2 a0_3) a1 w
def xL2Set.f (a0_0 a0_1 a0_2 a0_3 a1 : Int) : Option (Bool) := some (isSetB (v4 a0_0 a0_1 a0_2 a0_3) a1)
theorem xL2Set.calls (a0_0 a0_1 a0_2 a0_3 a1 : Int) (r : Bool) (w : World) (h : xL2Set.f a0_0 a0_1 a0_2 a0_3 a1 = some (r)) : Calls Try.prog 61 #[.agg #[.int .i64 a0_0, .int .i64 a0_1, .int .i64 a0_2, .int .i64 a0_3], .int .i64 a1] w fun e w' => e = .returned (.bool r) ∧ Below w.heap.size w w' := by
  unfold xL2Set.f at h
  obtain rfl := Option.some.inj h
  exact l2Set_any (v4 a0_0 a0_1 a0_2 a0_3) a1 w
def xL2Step.f (a0_0 a0_1 a0_2 a0_3 a1_0 a1_1 a1_2 a1_3 a2 : Int) : Option (Int × Int × Int × Int × Int) := if (isKitB (v4 a0_0 a0_1 a0_2 a0_3) && isSandB (v4 a0_0 a0_1 a0_2 a0_3) (v4 a1_0 a1_1 a1_2 a1_3)) = true then some ((stepS (v4 a0_0 a0_1 a0_2 a0_3) (v4 a1_0 a1_1 a1_2 a1_3) a2) 0, (stepS (v4 a0_0 a0_1 a0_2 a0_3) (v4 a1_0 a1_1 a1_2 a1_3) a2) 1, (stepS (v4 a0_0 a0_1 a0_2 a0_3) (v4 a1_0 a1_1 a1_2 a1_3) a2) 2, (stepS (v4 a0_0 a0_1 a0_2 a0_3) (v4 a1_0 a1_1 a1_2 a1_3) a2) 3, stepD (v4 a0_0 a0_1 a0_2 a0_3) (v4 a1_0 a1_1 a1_2 a1_3) a2) else none
theorem xL2Step.calls (a0_0 a0_1 a0_2 a0_3 a1_0 a1_1 a1_2 a1_3 a2 : Int) (r1 : Int) (r2 : Int) (r3 : Int) (r4 : Int) (r5 : Int) (w : World) (h : xL2Step.f a0_0 a0_1 a0_2 a0_3 a1_0 a1_1 a1_2 a1_3 a2 = some (r1, r2, r3, r4, r5)) : Calls Try.prog 60 #[.agg #[.int .i64 a0_0, .int .i64 a0_1, .int .i64 a0_2, .int .i64 a0_3], .agg #[.int .i64 a1_0, .int .i64 a1_1, .int .i64 a1_2, .int .i64 a1_3], .int .i64 a2] w fun e w' => e = .returned (.tuple #[.agg #[.int .i64 r1, .int .i64 r2, .int .i64 r3, .int .i64 r4], .int .i64 r5]) ∧ Below w.heap.size w w' := by
  unfold xL2Step.f at h
  by_cases g : (isKitB (v4 a0_0 a0_1 a0_2 a0_3) && isSandB (v4 a0_0 a0_1 a0_2 a0_3) (v4 a1_0 a1_1 a1_2 a1_3)) = true
  · rw [if_pos g] at h
    simp only [Option.some.injEq, Prod.mk.injEq] at h
    obtain ⟨rfl, rfl, rfl, rfl, rfl⟩ := h
    exact l2Step_any (v4 a0_0 a0_1 a0_2 a0_3) (v4 a1_0 a1_1 a1_2 a1_3) a2 (sand_of' g) w
  · rw [if_neg g] at h; cases h
end Go.Proofs.Ytlhodfjdmafapaa
end
section
namespace Go.Proofs.Ytlhodfjdmafapaa
open Go.RowKit
set_option linter.unusedVariables false
set_option linter.unusedSimpArgs false
def idFrom (k : Nat → Int) (t : Int) (s : Nat → Int) : Int := wrap64 (wrap64 (wrap64 (wrap64 (wrap64 (wrap64 (wrap64 (wrap64 (t * wrap64 (k 0 + 1)) + s 0) * wrap64 (k 1 + 1)) + s 1) * wrap64 (k 2 + 1)) + s 2) * wrap64 (k 3 + 1)) + s 3)
set_option maxHeartbeats 1600000 in
theorem l3Id_any (k : Nat → Int) (t : Int) (s : Nat → Int) (w : World) : Calls Try.prog 99 #[A4 k, .int .i64 t, A4 s] w fun e w' => e = .returned (.int .i64 (idFrom k t s)) ∧ Below w.heap.size w w' := by
  go_enter Try.func99, Try.ntmps99
  go_wp2_with fail
  refine wp_loop_rounds 5 ?_
  go_wp2_with (first | (go_quiet (fail)) | (rw [rounds_succ]))
  all_goals (go_ret; exact ⟨ret_int (by first | rfl | (simp [idFrom]; done) | trace_state), by (repeat first | (with_reducible assumption) | (with_reducible exact Below.refl _ _) | ((with_reducible refine bl_alloc _ ?_ ?_); focus (first | (simp; done) | (simp; omega) | omega)) | ((with_reducible refine bl_set _ ?_ ?_); focus (first | (simp; done) | (simp; omega) | omega)) | (with_reducible refine Below.drew ?_) | (with_reducible refine bl_drewN _ ?_))⟩)
def xL3Id.f (a0_0 a0_1 a0_2 a0_3 t a1_0 a1_1 a1_2 a1_3 : Int) : Option (Int) := some (idFrom (v4 a0_0 a0_1 a0_2 a0_3) t (v4 a1_0 a1_1 a1_2 a1_3))
theorem xL3Id.calls (a0_0 a0_1 a0_2 a0_3 t a1_0 a1_1 a1_2 a1_3 : Int) (r : Int) (w : World) (h : xL3Id.f a0_0 a0_1 a0_2 a0_3 t a1_0 a1_1 a1_2 a1_3 = some (r)) : Calls Try.prog 99 #[.agg #[.int .i64 a0_0, .int .i64 a0_1, .int .i64 a0_2, .int .i64 a0_3], .int .i64 t, .agg #[.int .i64 a1_0, .int .i64 a1_1, .int .i64 a1_2, .int .i64 a1_3]] w fun e w' => e = .returned (.int .i64 r) ∧ Below w.heap.size w w' := by
  unfold xL3Id.f at h
  obtain rfl := Option.some.inj h
  exact l3Id_any (v4 a0_0 a0_1 a0_2 a0_3) t (v4 a1_0 a1_1 a1_2 a1_3) w
end Go.Proofs.Ytlhodfjdmafapaa
end
