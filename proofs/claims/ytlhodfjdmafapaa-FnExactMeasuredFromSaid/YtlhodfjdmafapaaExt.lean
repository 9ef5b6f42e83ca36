/- Contracts of small functions on kits, in plain numbers. No statement of the seat is proved here. -/
import Derived.Test.YtlhodfjdmafapaaExt0
namespace Go.Proofs.Ytlhodfjdmafapaa
open Go.RowKit
set_option linter.unusedVariables false
set_option linter.unusedSimpArgs false

def xToIntA4.f (a0_0 a0_1 a0_2 a0_3 : Int) : Option (Int × Int × Int × Int) := some (((v4 a0_0 a0_1 a0_2 a0_3)) 0, ((v4 a0_0 a0_1 a0_2 a0_3)) 1, ((v4 a0_0 a0_1 a0_2 a0_3)) 2, ((v4 a0_0 a0_1 a0_2 a0_3)) 3)
theorem xToIntA4.calls (a0_0 a0_1 a0_2 a0_3 : Int) (r1 : Int) (r2 : Int) (r3 : Int) (r4 : Int) (w : World) (h : xToIntA4.f a0_0 a0_1 a0_2 a0_3 = some (r1, r2, r3, r4)) : Calls Try.prog 18 #[.agg #[.int .i64 a0_0, .int .i64 a0_1, .int .i64 a0_2, .int .i64 a0_3]] w fun e w' => e = .returned (.agg #[.int .i64 r1, .int .i64 r2, .int .i64 r3, .int .i64 r4]) ∧ Below w.heap.size w w' := by
  unfold xToIntA4.f at h
  simp only [Option.some.injEq, Prod.mk.injEq] at h
  obtain ⟨rfl, rfl, rfl, rfl⟩ := h
  exact toIntA4_any (v4 a0_0 a0_1 a0_2 a0_3) w
def xToKit.f (a0_0 a0_1 a0_2 a0_3 : Int) : Option (Int × Int × Int × Int) := some (((v4 a0_0 a0_1 a0_2 a0_3)) 0, ((v4 a0_0 a0_1 a0_2 a0_3)) 1, ((v4 a0_0 a0_1 a0_2 a0_3)) 2, ((v4 a0_0 a0_1 a0_2 a0_3)) 3)
theorem xToKit.calls (a0_0 a0_1 a0_2 a0_3 : Int) (r1 : Int) (r2 : Int) (r3 : Int) (r4 : Int) (w : World) (h : xToKit.f a0_0 a0_1 a0_2 a0_3 = some (r1, r2, r3, r4)) : Calls Try.prog 15 #[.agg #[.int .i64 a0_0, .int .i64 a0_1, .int .i64 a0_2, .int .i64 a0_3]] w fun e w' => e = .returned (.agg #[.int .i64 r1, .int .i64 r2, .int .i64 r3, .int .i64 r4]) ∧ Below w.heap.size w w' := by
  unfold xToKit.f at h
  simp only [Option.some.injEq, Prod.mk.injEq] at h
  obtain ⟨rfl, rfl, rfl, rfl⟩ := h
  exact toKit_any (v4 a0_0 a0_1 a0_2 a0_3) w
def xIsKit.f (a0_0 a0_1 a0_2 a0_3 : Int) : Option (Bool) := some (isKitB (v4 a0_0 a0_1 a0_2 a0_3))
theorem xIsKit.calls (a0_0 a0_1 a0_2 a0_3 : Int) (r : Bool) (w : World) (h : xIsKit.f a0_0 a0_1 a0_2 a0_3 = some (r)) : Calls Try.prog 88 #[.agg #[.int .i64 a0_0, .int .i64 a0_1, .int .i64 a0_2, .int .i64 a0_3]] w fun e w' => e = .returned (.bool r) ∧ Below w.heap.size w w' := by
  unfold xIsKit.f at h
  obtain rfl := Option.some.inj h
  exact isKit_any (v4 a0_0 a0_1 a0_2 a0_3) w
def xL2Kit.f (a0_0 a0_1 a0_2 a0_3 : Int) : Option (Bool) := some (isKitB (v4 a0_0 a0_1 a0_2 a0_3))
theorem xL2Kit.calls (a0_0 a0_1 a0_2 a0_3 : Int) (r : Bool) (w : World) (h : xL2Kit.f a0_0 a0_1 a0_2 a0_3 = some (r)) : Calls Try.prog 76 #[.agg #[.int .i64 a0_0, .int .i64 a0_1, .int .i64 a0_2, .int .i64 a0_3]] w fun e w' => e = .returned (.bool r) ∧ Below w.heap.size w w' := by
  unfold xL2Kit.f at h
  obtain rfl := Option.some.inj h
  exact l2Kit_any (v4 a0_0 a0_1 a0_2 a0_3) w
def xIsSandM.f (a0_0 a0_1 a0_2 a0_3 a1_0 a1_1 a1_2 a1_3 : Int) : Option (Bool) := some (isSandB (v4 a0_0 a0_1 a0_2 a0_3) (v4 a1_0 a1_1 a1_2 a1_3))
theorem xIsSandM.calls (a0_0 a0_1 a0_2 a0_3 a1_0 a1_1 a1_2 a1_3 : Int) (r : Bool) (w : World) (h : xIsSandM.f a0_0 a0_1 a0_2 a0_3 a1_0 a1_1 a1_2 a1_3 = some (r)) : Calls Try.prog 89 #[.agg #[.int .i64 a0_0, .int .i64 a0_1, .int .i64 a0_2, .int .i64 a0_3], .agg #[.int .i64 a1_0, .int .i64 a1_1, .int .i64 a1_2, .int .i64 a1_3]] w fun e w' => e = .returned (.bool r) ∧ Below w.heap.size w w' := by
  unfold xIsSandM.f at h
  obtain rfl := Option.some.inj h
  exact isSand_any (v4 a0_0 a0_1 a0_2 a0_3) (v4 a1_0 a1_1 a1_2 a1_3) w
def xL2Sand.f (a0_0 a0_1 a0_2 a0_3 a1_0 a1_1 a1_2 a1_3 : Int) : Option (Bool) := some (isSandB (v4 a0_0 a0_1 a0_2 a0_3) (v4 a1_0 a1_1 a1_2 a1_3) && isKitB (v4 a0_0 a0_1 a0_2 a0_3))
theorem xL2Sand.calls (a0_0 a0_1 a0_2 a0_3 a1_0 a1_1 a1_2 a1_3 : Int) (r : Bool) (w : World) (h : xL2Sand.f a0_0 a0_1 a0_2 a0_3 a1_0 a1_1 a1_2 a1_3 = some (r)) : Calls Try.prog 49 #[.agg #[.int .i64 a0_0, .int .i64 a0_1, .int .i64 a0_2, .int .i64 a0_3], .agg #[.int .i64 a1_0, .int .i64 a1_1, .int .i64 a1_2, .int .i64 a1_3]] w fun e w' => e = .returned (.bool r) ∧ Below w.heap.size w w' := by
  unfold xL2Sand.f at h
  obtain rfl := Option.some.inj h
  exact l2Sand_any (v4 a0_0 a0_1 a0_2 a0_3) (v4 a1_0 a1_1 a1_2 a1_3) w
def xAreSand.f (a0_0 a0_1 a0_2 a0_3 a1_0 a1_1 a1_2 a1_3 : Int) : Option (Bool) := some (isKitB (v4 a0_0 a0_1 a0_2 a0_3) && isSandB (v4 a0_0 a0_1 a0_2 a0_3) (v4 a1_0 a1_1 a1_2 a1_3))
theorem xAreSand.calls (a0_0 a0_1 a0_2 a0_3 a1_0 a1_1 a1_2 a1_3 : Int) (r : Bool) (w : World) (h : xAreSand.f a0_0 a0_1 a0_2 a0_3 a1_0 a1_1 a1_2 a1_3 = some (r)) : Calls Try.prog 63 #[.agg #[.int .i64 a0_0, .int .i64 a0_1, .int .i64 a0_2, .int .i64 a0_3], .agg #[.int .i64 a1_0, .int .i64 a1_1, .int .i64 a1_2, .int .i64 a1_3]] w fun e w' => e = .returned (.bool r) ∧ Below w.heap.size w w' := by
  unfold xAreSand.f at h
  obtain rfl := Option.some.inj h
  exact areSand_any (v4 a0_0 a0_1 a0_2 a0_3) (v4 a1_0 a1_1 a1_2 a1_3) w
def xAll.f (a0_0 a0_1 a0_2 a0_3 : Int) : Option (Int) := some (allOf (v4 a0_0 a0_1 a0_2 a0_3))
theorem xAll.calls (a0_0 a0_1 a0_2 a0_3 : Int) (r : Int) (w : World) (h : xAll.f a0_0 a0_1 a0_2 a0_3 = some (r)) : Calls Try.prog 104 #[.agg #[.int .i64 a0_0, .int .i64 a0_1, .int .i64 a0_2, .int .i64 a0_3]] w fun e w' => e = .returned (.int .i64 r) ∧ Below w.heap.size w w' := by
  unfold xAll.f at h
  obtain rfl := Option.some.inj h
  exact all_any (v4 a0_0 a0_1 a0_2 a0_3) w
def xL2All.f (a0_0 a0_1 a0_2 a0_3 : Int) : Option (Int) := some (allOf (v4 a0_0 a0_1 a0_2 a0_3))
theorem xL2All.calls (a0_0 a0_1 a0_2 a0_3 : Int) (r : Int) (w : World) (h : xL2All.f a0_0 a0_1 a0_2 a0_3 = some (r)) : Calls Try.prog 86 #[.agg #[.int .i64 a0_0, .int .i64 a0_1, .int .i64 a0_2, .int .i64 a0_3]] w fun e w' => e = .returned (.int .i64 r) ∧ Below w.heap.size w w' := by
  unfold xL2All.f at h
  obtain rfl := Option.some.inj h
  exact l2All_any (v4 a0_0 a0_1 a0_2 a0_3) w
def xProduct.f (a0_0 a0_1 a0_2 a0_3 : Int) : Option (Int) := some (prodOf (v4 a0_0 a0_1 a0_2 a0_3))
theorem xProduct.calls (a0_0 a0_1 a0_2 a0_3 : Int) (r : Int) (w : World) (h : xProduct.f a0_0 a0_1 a0_2 a0_3 = some (r)) : Calls Try.prog 80 #[.agg #[.int .i64 a0_0, .int .i64 a0_1, .int .i64 a0_2, .int .i64 a0_3]] w fun e w' => e = .returned (.int .i64 r) ∧ Below w.heap.size w w' := by
  unfold xProduct.f at h
  obtain rfl := Option.some.inj h
  exact product_any (v4 a0_0 a0_1 a0_2 a0_3) w
def xL4Many.f (a0_0 a0_1 a0_2 a0_3 : Int) : Option (Int) := some (prodOf (v4 a0_0 a0_1 a0_2 a0_3))
theorem xL4Many.calls (a0_0 a0_1 a0_2 a0_3 : Int) (r : Int) (w : World) (h : xL4Many.f a0_0 a0_1 a0_2 a0_3 = some (r)) : Calls Try.prog 77 #[.agg #[.int .i64 a0_0, .int .i64 a0_1, .int .i64 a0_2, .int .i64 a0_3]] w fun e w' => e = .returned (.int .i64 r) ∧ Below w.heap.size w w' := by
  unfold xL4Many.f at h
  obtain rfl := Option.some.inj h
  exact l4Many_any (v4 a0_0 a0_1 a0_2 a0_3) w
def xL3Many.f (a0_0 a0_1 a0_2 a0_3 : Int) : Option (Int) := some (prodOf (v4 a0_0 a0_1 a0_2 a0_3))
theorem xL3Many.calls (a0_0 a0_1 a0_2 a0_3 : Int) (r : Int) (w : World) (h : xL3Many.f a0_0 a0_1 a0_2 a0_3 = some (r)) : Calls Try.prog 97 #[.agg #[.int .i64 a0_0, .int .i64 a0_1, .int .i64 a0_2, .int .i64 a0_3]] w fun e w' => e = .returned (.int .i64 r) ∧ Below w.heap.size w w' := by
  unfold xL3Many.f at h
  obtain rfl := Option.some.inj h
  exact l3Many_any (v4 a0_0 a0_1 a0_2 a0_3) w
def xEqIntA4.f (a0_0 a0_1 a0_2 a0_3 a1_0 a1_1 a1_2 a1_3 : Int) : Option (Bool) := some (eq4B (v4 a0_0 a0_1 a0_2 a0_3) (v4 a1_0 a1_1 a1_2 a1_3))
theorem xEqIntA4.calls (a0_0 a0_1 a0_2 a0_3 a1_0 a1_1 a1_2 a1_3 : Int) (r : Bool) (w : World) (h : xEqIntA4.f a0_0 a0_1 a0_2 a0_3 a1_0 a1_1 a1_2 a1_3 = some (r)) : Calls Try.prog 69 #[.agg #[.int .i64 a0_0, .int .i64 a0_1, .int .i64 a0_2, .int .i64 a0_3], .agg #[.int .i64 a1_0, .int .i64 a1_1, .int .i64 a1_2, .int .i64 a1_3]] w fun e w' => e = .returned (.bool r) ∧ Below w.heap.size w w' := by
  unfold xEqIntA4.f at h
  obtain rfl := Option.some.inj h
  exact eqIntA4_any (v4 a0_0 a0_1 a0_2 a0_3) (v4 a1_0 a1_1 a1_2 a1_3) w
def xL4Narrow.f (a0_0 a0_1 a0_2 a0_3 : Int) : Option (Bool) := some (isKitB (v4 a0_0 a0_1 a0_2 a0_3) && decide (prodOf (v4 a0_0 a0_1 a0_2 a0_3) ≤ 3000))
theorem xL4Narrow.calls (a0_0 a0_1 a0_2 a0_3 : Int) (r : Bool) (w : World) (h : xL4Narrow.f a0_0 a0_1 a0_2 a0_3 = some (r)) : Calls Try.prog 44 #[.agg #[.int .i64 a0_0, .int .i64 a0_1, .int .i64 a0_2, .int .i64 a0_3]] w fun e w' => e = .returned (.bool r) ∧ Below w.heap.size w w' := by
  unfold xL4Narrow.f at h
  obtain rfl := Option.some.inj h
  exact l4Narrow_any (v4 a0_0 a0_1 a0_2 a0_3) w
def xIsSet.f (a0_0 a0_1 a0_2 a0_3 a1 : Int) : Option (Bool) := some (isSetB (v4 a0_0 a0_1 a0_2 a0_3) a1)
theorem xIsSet.calls (a0_0 a0_1 a0_2 a0_3 a1 : Int) (r : Bool) (w : World) (h : xIsSet.f a0_0 a0_1 a0_2 a0_3 a1 = some (r)) : Calls Try.prog 90 #[.agg #[.int .i64 a0_0, .int .i64 a0_1, .int .i64 a0_2, .int .i64 a0_3], .int .i64 a1] w fun e w' => e = .returned (.bool r) ∧ Below w.heap.size w w' := by
  unfold xIsSet.f at h
  obtain rfl := Option.some.inj h
  exact isSet_any (v4 a0_0 a0_1 a0_2 a0_3) a1 w
def xL2Set.f (a0_0 a0_1 a0_2 a0_3 a1 : Int) : Option (Bool) := some (isSetB (v4 a0_0 a0_1 a0_2 a0_3) a1)
theorem xL2Set.calls (a0_0 a0_1 a0_2 a0_3 a1 : Int) (r : Bool) (w : World) (h : xL2Set.f a0_0 a0_1 a0_2 a0_3 a1 = some (r)) : Calls Try.prog 61 #[.agg #[.int .i64 a0_0, .int .i64 a0_1, .int .i64 a0_2, .int .i64 a0_3], .int .i64 a1] w fun e w' => e = .returned (.bool r) ∧ Below w.heap.size w w' := by
  unfold xL2Set.f at h
  obtain rfl := Option.some.inj h
  exact l2Set_any (v4 a0_0 a0_1 a0_2 a0_3) a1 w
def xStep.f (a0_0 a0_1 a0_2 a0_3 a1_0 a1_1 a1_2 a1_3 a2 : Int) : Option (Int × Int × Int × Int × Int) := if (isKitB (v4 a0_0 a0_1 a0_2 a0_3) && isSandB (v4 a0_0 a0_1 a0_2 a0_3) (v4 a1_0 a1_1 a1_2 a1_3)) = true then some ((stepS (v4 a0_0 a0_1 a0_2 a0_3) (v4 a1_0 a1_1 a1_2 a1_3) a2) 0, (stepS (v4 a0_0 a0_1 a0_2 a0_3) (v4 a1_0 a1_1 a1_2 a1_3) a2) 1, (stepS (v4 a0_0 a0_1 a0_2 a0_3) (v4 a1_0 a1_1 a1_2 a1_3) a2) 2, (stepS (v4 a0_0 a0_1 a0_2 a0_3) (v4 a1_0 a1_1 a1_2 a1_3) a2) 3, stepD (v4 a0_0 a0_1 a0_2 a0_3) (v4 a1_0 a1_1 a1_2 a1_3) a2) else none
theorem xStep.calls (a0_0 a0_1 a0_2 a0_3 a1_0 a1_1 a1_2 a1_3 a2 : Int) (r1 : Int) (r2 : Int) (r3 : Int) (r4 : Int) (r5 : Int) (w : World) (h : xStep.f a0_0 a0_1 a0_2 a0_3 a1_0 a1_1 a1_2 a1_3 a2 = some (r1, r2, r3, r4, r5)) : Calls Try.prog 66 #[.agg #[.int .i64 a0_0, .int .i64 a0_1, .int .i64 a0_2, .int .i64 a0_3], .agg #[.int .i64 a1_0, .int .i64 a1_1, .int .i64 a1_2, .int .i64 a1_3], .int .i64 a2] w fun e w' => e = .returned (.tuple #[.agg #[.int .i64 r1, .int .i64 r2, .int .i64 r3, .int .i64 r4], .int .i64 r5]) ∧ Below w.heap.size w w' := by
  unfold xStep.f at h
  by_cases g : (isKitB (v4 a0_0 a0_1 a0_2 a0_3) && isSandB (v4 a0_0 a0_1 a0_2 a0_3) (v4 a1_0 a1_1 a1_2 a1_3)) = true
  · rw [if_pos g] at h
    simp only [Option.some.injEq, Prod.mk.injEq] at h
    obtain ⟨rfl, rfl, rfl, rfl, rfl⟩ := h
    exact step_any (v4 a0_0 a0_1 a0_2 a0_3) (v4 a1_0 a1_1 a1_2 a1_3) a2 (sand_of' g) w
  · rw [if_neg g] at h; cases h
def xL2Step.f (a0_0 a0_1 a0_2 a0_3 a1_0 a1_1 a1_2 a1_3 a2 : Int) : Option (Int × Int × Int × Int × Int) := if (isKitB (v4 a0_0 a0_1 a0_2 a0_3) && isSandB (v4 a0_0 a0_1 a0_2 a0_3) (v4 a1_0 a1_1 a1_2 a1_3)) = true then some ((stepS (v4 a0_0 a0_1 a0_2 a0_3) (v4 a1_0 a1_1 a1_2 a1_3) a2) 0, (stepS (v4 a0_0 a0_1 a0_2 a0_3) (v4 a1_0 a1_1 a1_2 a1_3) a2) 1, (stepS (v4 a0_0 a0_1 a0_2 a0_3) (v4 a1_0 a1_1 a1_2 a1_3) a2) 2, (stepS (v4 a0_0 a0_1 a0_2 a0_3) (v4 a1_0 a1_1 a1_2 a1_3) a2) 3, stepD (v4 a0_0 a0_1 a0_2 a0_3) (v4 a1_0 a1_1 a1_2 a1_3) a2) else none
theorem xL2Step.calls (a0_0 a0_1 a0_2 a0_3 a1_0 a1_1 a1_2 a1_3 a2 : Int) (r1 : Int) (r2 : Int) (r3 : Int) (r4 : Int) (r5 : Int) (w : World) (h : xL2Step.f a0_0 a0_1 a0_2 a0_3 a1_0 a1_1 a1_2 a1_3 a2 = some (r1, r2, r3, r4, r5)) : Calls Try.prog 60 #[.agg #[.int .i64 a0_0, .int .i64 a0_1, .int .i64 a0_2, .int .i64 a0_3], .agg #[.int .i64 a1_0, .int .i64 a1_1, .int .i64 a1_2, .int .i64 a1_3], .int .i64 a2] w fun e w' => e = .returned (.tuple #[.agg #[.int .i64 r1, .int .i64 r2, .int .i64 r3, .int .i64 r4], .int .i64 r5]) ∧ Below w.heap.size w w' := by
  unfold xL2Step.f at h
  by_cases g : (isKitB (v4 a0_0 a0_1 a0_2 a0_3) && isSandB (v4 a0_0 a0_1 a0_2 a0_3) (v4 a1_0 a1_1 a1_2 a1_3)) = true
  · rw [if_pos g] at h
    simp only [Option.some.injEq, Prod.mk.injEq] at h
    obtain ⟨rfl, rfl, rfl, rfl, rfl⟩ := h
    exact l2Step_any (v4 a0_0 a0_1 a0_2 a0_3) (v4 a1_0 a1_1 a1_2 a1_3) a2 (sand_of' g) w
  · rw [if_neg g] at h; cases h
def xCalm.f : Option (Int × Int × Int × Int) := some (((fun _ => 0)) 0, ((fun _ => 0)) 1, ((fun _ => 0)) 2, ((fun _ => 0)) 3)
theorem xCalm.calls (r1 : Int) (r2 : Int) (r3 : Int) (r4 : Int) (w : World) (h : xCalm.f  = some (r1, r2, r3, r4)) : Calls Try.prog 47 #[] w fun e w' => e = .returned (.agg #[.int .i64 r1, .int .i64 r2, .int .i64 r3, .int .i64 r4]) ∧ Below w.heap.size w w' := by
  unfold xCalm.f at h
  simp only [Option.some.injEq, Prod.mk.injEq] at h
  obtain ⟨rfl, rfl, rfl, rfl⟩ := h
  exact calm_any w
end Go.Proofs.Ytlhodfjdmafapaa
