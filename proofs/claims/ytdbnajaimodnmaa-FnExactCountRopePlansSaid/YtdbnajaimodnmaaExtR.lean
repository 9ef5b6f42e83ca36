/- Contracts of small functions on ropes, in plain numbers. No statement of the seat is proved here. -/
import Derived.Test.YtdbnajaimodnmaaExt0
import Derived.Test.YtdbnajaimodnmaaRopeAll
namespace Go.Proofs.Ytdbnajaimodnmaa
open Go.RowKit
set_option linter.unusedVariables false
set_option linter.unusedSimpArgs false
def eq3B (g h : Nat → Int) : Bool := g 0 == h 0 && g 1 == h 1 && g 2 == h 2
theorem eqIntA3_if (g h : Nat → Int) (e : eq3B g h = true) (w : World) : Calls Try.prog 42 #[A3 g, A3 h] w fun e w' => e = .returned (.bool true) ∧ Below w.heap.size w w' := by
  simp only [eq3B, Bool.and_eq_true, beq_iff_eq] at e
  have : A3 h = A3 g := by unfold A3; rw [e.1.1, e.1.2, e.2]
  rw [this]; exact eqIntA3_same g w

def xToRopes.f (a0_0 a0_1 a0_2 a0_3 a0_4 a0_5 : Int) : Option (Int × Int × Int × Int × Int × Int) := some (((v6 a0_0 a0_1 a0_2 a0_3 a0_4 a0_5)) 0, ((v6 a0_0 a0_1 a0_2 a0_3 a0_4 a0_5)) 1, ((v6 a0_0 a0_1 a0_2 a0_3 a0_4 a0_5)) 2, ((v6 a0_0 a0_1 a0_2 a0_3 a0_4 a0_5)) 3, ((v6 a0_0 a0_1 a0_2 a0_3 a0_4 a0_5)) 4, ((v6 a0_0 a0_1 a0_2 a0_3 a0_4 a0_5)) 5)
theorem xToRopes.calls (a0_0 a0_1 a0_2 a0_3 a0_4 a0_5 : Int) (r1 : Int) (r2 : Int) (r3 : Int) (r4 : Int) (r5 : Int) (r6 : Int) (w : World) (h : xToRopes.f a0_0 a0_1 a0_2 a0_3 a0_4 a0_5 = some (r1, r2, r3, r4, r5, r6)) : Calls Try.prog 18 #[.agg #[.int .i64 a0_0, .int .i64 a0_1, .int .i64 a0_2, .int .i64 a0_3, .int .i64 a0_4, .int .i64 a0_5]] w fun e w' => e = .returned (.agg #[.int .i64 r1, .int .i64 r2, .int .i64 r3, .int .i64 r4, .int .i64 r5, .int .i64 r6]) ∧ Below w.heap.size w w' := by
  unfold xToRopes.f at h
  simp only [Option.some.injEq, Prod.mk.injEq] at h
  obtain ⟨rfl, rfl, rfl, rfl, rfl, rfl⟩ := h
  exact toRopes_any (v6 a0_0 a0_1 a0_2 a0_3 a0_4 a0_5) w
def xToIntA3.f (a0_0 a0_1 a0_2 : Int) : Option (Int × Int × Int) := some (((v3 a0_0 a0_1 a0_2)) 0, ((v3 a0_0 a0_1 a0_2)) 1, ((v3 a0_0 a0_1 a0_2)) 2)
theorem xToIntA3.calls (a0_0 a0_1 a0_2 : Int) (r1 : Int) (r2 : Int) (r3 : Int) (w : World) (h : xToIntA3.f a0_0 a0_1 a0_2 = some (r1, r2, r3)) : Calls Try.prog 37 #[.agg #[.int .i64 a0_0, .int .i64 a0_1, .int .i64 a0_2]] w fun e w' => e = .returned (.agg #[.int .i64 r1, .int .i64 r2, .int .i64 r3]) ∧ Below w.heap.size w w' := by
  unfold xToIntA3.f at h
  simp only [Option.some.injEq, Prod.mk.injEq] at h
  obtain ⟨rfl, rfl, rfl⟩ := h
  exact toIntA3_any (v3 a0_0 a0_1 a0_2) w
def xIsRopes.f (a0_0 a0_1 a0_2 a0_3 a0_4 a0_5 : Int) : Option (Bool) := some (isRopesB (v6 a0_0 a0_1 a0_2 a0_3 a0_4 a0_5))
theorem xIsRopes.calls (a0_0 a0_1 a0_2 a0_3 a0_4 a0_5 : Int) (r : Bool) (w : World) (h : xIsRopes.f a0_0 a0_1 a0_2 a0_3 a0_4 a0_5 = some (r)) : Calls Try.prog 38 #[.agg #[.int .i64 a0_0, .int .i64 a0_1, .int .i64 a0_2, .int .i64 a0_3, .int .i64 a0_4, .int .i64 a0_5]] w fun e w' => e = .returned (.bool r) ∧ Below w.heap.size w w' := by
  unfold xIsRopes.f at h
  obtain rfl := Option.some.inj h
  exact isRopes_any (v6 a0_0 a0_1 a0_2 a0_3 a0_4 a0_5) w
def xL5Good.f (a0_0 a0_1 a0_2 a0_3 a0_4 a0_5 : Int) : Option (Bool) := some (isRopesB (v6 a0_0 a0_1 a0_2 a0_3 a0_4 a0_5))
theorem xL5Good.calls (a0_0 a0_1 a0_2 a0_3 a0_4 a0_5 : Int) (r : Bool) (w : World) (h : xL5Good.f a0_0 a0_1 a0_2 a0_3 a0_4 a0_5 = some (r)) : Calls Try.prog 35 #[.agg #[.int .i64 a0_0, .int .i64 a0_1, .int .i64 a0_2, .int .i64 a0_3, .int .i64 a0_4, .int .i64 a0_5]] w fun e w' => e = .returned (.bool r) ∧ Below w.heap.size w w' := by
  unfold xL5Good.f at h
  obtain rfl := Option.some.inj h
  exact l5Good_any (v6 a0_0 a0_1 a0_2 a0_3 a0_4 a0_5) w
def xLight.f (a0_0 a0_1 a0_2 a0_3 a0_4 a0_5 a1_0 a1_1 a1_2 : Int) : Option (Int × Int × Int × Int × Int × Int × Bool) := if isRopesB (v6 a0_0 a0_1 a0_2 a0_3 a0_4 a0_5) = true then some ((opt (litTo (v6 a0_0 a0_1 a0_2 a0_3 a0_4 a0_5) (v3 a1_0 a1_1 a1_2) 3) (litsB (v6 a0_0 a0_1 a0_2 a0_3 a0_4 a0_5) (v3 a1_0 a1_1 a1_2))) 0, (opt (litTo (v6 a0_0 a0_1 a0_2 a0_3 a0_4 a0_5) (v3 a1_0 a1_1 a1_2) 3) (litsB (v6 a0_0 a0_1 a0_2 a0_3 a0_4 a0_5) (v3 a1_0 a1_1 a1_2))) 1, (opt (litTo (v6 a0_0 a0_1 a0_2 a0_3 a0_4 a0_5) (v3 a1_0 a1_1 a1_2) 3) (litsB (v6 a0_0 a0_1 a0_2 a0_3 a0_4 a0_5) (v3 a1_0 a1_1 a1_2))) 2, (opt (litTo (v6 a0_0 a0_1 a0_2 a0_3 a0_4 a0_5) (v3 a1_0 a1_1 a1_2) 3) (litsB (v6 a0_0 a0_1 a0_2 a0_3 a0_4 a0_5) (v3 a1_0 a1_1 a1_2))) 3, (opt (litTo (v6 a0_0 a0_1 a0_2 a0_3 a0_4 a0_5) (v3 a1_0 a1_1 a1_2) 3) (litsB (v6 a0_0 a0_1 a0_2 a0_3 a0_4 a0_5) (v3 a1_0 a1_1 a1_2))) 4, (opt (litTo (v6 a0_0 a0_1 a0_2 a0_3 a0_4 a0_5) (v3 a1_0 a1_1 a1_2) 3) (litsB (v6 a0_0 a0_1 a0_2 a0_3 a0_4 a0_5) (v3 a1_0 a1_1 a1_2))) 5, litsB (v6 a0_0 a0_1 a0_2 a0_3 a0_4 a0_5) (v3 a1_0 a1_1 a1_2)) else none
theorem xLight.calls (a0_0 a0_1 a0_2 a0_3 a0_4 a0_5 a1_0 a1_1 a1_2 : Int) (r1 : Int) (r2 : Int) (r3 : Int) (r4 : Int) (r5 : Int) (r6 : Int) (r7 : Bool) (w : World) (h : xLight.f a0_0 a0_1 a0_2 a0_3 a0_4 a0_5 a1_0 a1_1 a1_2 = some (r1, r2, r3, r4, r5, r6, r7)) : Calls Try.prog 39 #[.agg #[.int .i64 a0_0, .int .i64 a0_1, .int .i64 a0_2, .int .i64 a0_3, .int .i64 a0_4, .int .i64 a0_5], .agg #[.int .i64 a1_0, .int .i64 a1_1, .int .i64 a1_2]] w fun e w' => e = .returned (.tuple #[.agg #[.int .i64 r1, .int .i64 r2, .int .i64 r3, .int .i64 r4, .int .i64 r5, .int .i64 r6], .bool r7]) ∧ Below w.heap.size w w' := by
  unfold xLight.f at h
  by_cases g : isRopesB (v6 a0_0 a0_1 a0_2 a0_3 a0_4 a0_5) = true
  · rw [if_pos g] at h
    simp only [Option.some.injEq, Prod.mk.injEq] at h
    obtain ⟨rfl, rfl, rfl, rfl, rfl, rfl, rfl⟩ := h
    exact light_any (v6 a0_0 a0_1 a0_2 a0_3 a0_4 a0_5) (v3 a1_0 a1_1 a1_2) (rope_of g) w
  · rw [if_neg g] at h; cases h
def xL5Light.f (a0_0 a0_1 a0_2 a0_3 a0_4 a0_5 a1_0 a1_1 a1_2 : Int) : Option (Int × Int × Int × Int × Int × Int × Bool) := if isRopesB (v6 a0_0 a0_1 a0_2 a0_3 a0_4 a0_5) = true then some ((opt (litTo (v6 a0_0 a0_1 a0_2 a0_3 a0_4 a0_5) (v3 a1_0 a1_1 a1_2) 3) (litsB (v6 a0_0 a0_1 a0_2 a0_3 a0_4 a0_5) (v3 a1_0 a1_1 a1_2))) 0, (opt (litTo (v6 a0_0 a0_1 a0_2 a0_3 a0_4 a0_5) (v3 a1_0 a1_1 a1_2) 3) (litsB (v6 a0_0 a0_1 a0_2 a0_3 a0_4 a0_5) (v3 a1_0 a1_1 a1_2))) 1, (opt (litTo (v6 a0_0 a0_1 a0_2 a0_3 a0_4 a0_5) (v3 a1_0 a1_1 a1_2) 3) (litsB (v6 a0_0 a0_1 a0_2 a0_3 a0_4 a0_5) (v3 a1_0 a1_1 a1_2))) 2, (opt (litTo (v6 a0_0 a0_1 a0_2 a0_3 a0_4 a0_5) (v3 a1_0 a1_1 a1_2) 3) (litsB (v6 a0_0 a0_1 a0_2 a0_3 a0_4 a0_5) (v3 a1_0 a1_1 a1_2))) 3, (opt (litTo (v6 a0_0 a0_1 a0_2 a0_3 a0_4 a0_5) (v3 a1_0 a1_1 a1_2) 3) (litsB (v6 a0_0 a0_1 a0_2 a0_3 a0_4 a0_5) (v3 a1_0 a1_1 a1_2))) 4, (opt (litTo (v6 a0_0 a0_1 a0_2 a0_3 a0_4 a0_5) (v3 a1_0 a1_1 a1_2) 3) (litsB (v6 a0_0 a0_1 a0_2 a0_3 a0_4 a0_5) (v3 a1_0 a1_1 a1_2))) 5, litsB (v6 a0_0 a0_1 a0_2 a0_3 a0_4 a0_5) (v3 a1_0 a1_1 a1_2)) else none
theorem xL5Light.calls (a0_0 a0_1 a0_2 a0_3 a0_4 a0_5 a1_0 a1_1 a1_2 : Int) (r1 : Int) (r2 : Int) (r3 : Int) (r4 : Int) (r5 : Int) (r6 : Int) (r7 : Bool) (w : World) (h : xL5Light.f a0_0 a0_1 a0_2 a0_3 a0_4 a0_5 a1_0 a1_1 a1_2 = some (r1, r2, r3, r4, r5, r6, r7)) : Calls Try.prog 58 #[.agg #[.int .i64 a0_0, .int .i64 a0_1, .int .i64 a0_2, .int .i64 a0_3, .int .i64 a0_4, .int .i64 a0_5], .agg #[.int .i64 a1_0, .int .i64 a1_1, .int .i64 a1_2]] w fun e w' => e = .returned (.tuple #[.agg #[.int .i64 r1, .int .i64 r2, .int .i64 r3, .int .i64 r4, .int .i64 r5, .int .i64 r6], .bool r7]) ∧ Below w.heap.size w w' := by
  unfold xL5Light.f at h
  by_cases g : isRopesB (v6 a0_0 a0_1 a0_2 a0_3 a0_4 a0_5) = true
  · rw [if_pos g] at h
    simp only [Option.some.injEq, Prod.mk.injEq] at h
    obtain ⟨rfl, rfl, rfl, rfl, rfl, rfl, rfl⟩ := h
    exact l5Light_any (v6 a0_0 a0_1 a0_2 a0_3 a0_4 a0_5) (v3 a1_0 a1_1 a1_2) (rope_of g) w
  · rw [if_neg g] at h; cases h
def xTold.f (a0_0 a0_1 a0_2 a0_3 a0_4 a0_5 : Int) : Option (Int) := if isRopesB (v6 a0_0 a0_1 a0_2 a0_3 a0_4 a0_5) = true then some (toldF (v6 a0_0 a0_1 a0_2 a0_3 a0_4 a0_5)) else none
theorem xTold.calls (a0_0 a0_1 a0_2 a0_3 a0_4 a0_5 : Int) (r : Int) (w : World) (h : xTold.f a0_0 a0_1 a0_2 a0_3 a0_4 a0_5 = some (r)) : Calls Try.prog 40 #[.agg #[.int .i64 a0_0, .int .i64 a0_1, .int .i64 a0_2, .int .i64 a0_3, .int .i64 a0_4, .int .i64 a0_5]] w fun e w' => e = .returned (.int .i64 r) ∧ Below w.heap.size w w' := by
  unfold xTold.f at h
  by_cases g : isRopesB (v6 a0_0 a0_1 a0_2 a0_3 a0_4 a0_5) = true
  · rw [if_pos g] at h
    obtain rfl := Option.some.inj h
    exact told_any (v6 a0_0 a0_1 a0_2 a0_3 a0_4 a0_5) (rope_of g) w
  · rw [if_neg g] at h; cases h
def xL5Next.f (a0_0 a0_1 a0_2 a0_3 a0_4 a0_5 : Int) : Option (Int) := if isRopesB (v6 a0_0 a0_1 a0_2 a0_3 a0_4 a0_5) = true then some (toldF (v6 a0_0 a0_1 a0_2 a0_3 a0_4 a0_5)) else none
theorem xL5Next.calls (a0_0 a0_1 a0_2 a0_3 a0_4 a0_5 : Int) (r : Int) (w : World) (h : xL5Next.f a0_0 a0_1 a0_2 a0_3 a0_4 a0_5 = some (r)) : Calls Try.prog 59 #[.agg #[.int .i64 a0_0, .int .i64 a0_1, .int .i64 a0_2, .int .i64 a0_3, .int .i64 a0_4, .int .i64 a0_5]] w fun e w' => e = .returned (.int .i64 r) ∧ Below w.heap.size w w' := by
  unfold xL5Next.f at h
  by_cases g : isRopesB (v6 a0_0 a0_1 a0_2 a0_3 a0_4 a0_5) = true
  · rw [if_pos g] at h
    obtain rfl := Option.some.inj h
    exact l5Next_any (v6 a0_0 a0_1 a0_2 a0_3 a0_4 a0_5) (rope_of g) w
  · rw [if_neg g] at h; cases h
def xBurn.f (a0_0 a0_1 a0_2 a0_3 a0_4 a0_5 a1 : Int) : Option (Int × Int × Int × Int × Int × Int) := some ((burnF (v6 a0_0 a0_1 a0_2 a0_3 a0_4 a0_5) a1) 0, (burnF (v6 a0_0 a0_1 a0_2 a0_3 a0_4 a0_5) a1) 1, (burnF (v6 a0_0 a0_1 a0_2 a0_3 a0_4 a0_5) a1) 2, (burnF (v6 a0_0 a0_1 a0_2 a0_3 a0_4 a0_5) a1) 3, (burnF (v6 a0_0 a0_1 a0_2 a0_3 a0_4 a0_5) a1) 4, (burnF (v6 a0_0 a0_1 a0_2 a0_3 a0_4 a0_5) a1) 5)
theorem xBurn.calls (a0_0 a0_1 a0_2 a0_3 a0_4 a0_5 a1 : Int) (r1 : Int) (r2 : Int) (r3 : Int) (r4 : Int) (r5 : Int) (r6 : Int) (w : World) (h : xBurn.f a0_0 a0_1 a0_2 a0_3 a0_4 a0_5 a1 = some (r1, r2, r3, r4, r5, r6)) : Calls Try.prog 41 #[.agg #[.int .i64 a0_0, .int .i64 a0_1, .int .i64 a0_2, .int .i64 a0_3, .int .i64 a0_4, .int .i64 a0_5], .int .i64 a1] w fun e w' => e = .returned (.agg #[.int .i64 r1, .int .i64 r2, .int .i64 r3, .int .i64 r4, .int .i64 r5, .int .i64 r6]) ∧ Below w.heap.size w w' := by
  unfold xBurn.f at h
  simp only [Option.some.injEq, Prod.mk.injEq] at h
  obtain ⟨rfl, rfl, rfl, rfl, rfl, rfl⟩ := h
  exact burn_any (v6 a0_0 a0_1 a0_2 a0_3 a0_4 a0_5) a1 w
def xL5Burn.f (a0_0 a0_1 a0_2 a0_3 a0_4 a0_5 a1 : Int) : Option (Int × Int × Int × Int × Int × Int) := some ((burnF (v6 a0_0 a0_1 a0_2 a0_3 a0_4 a0_5) a1) 0, (burnF (v6 a0_0 a0_1 a0_2 a0_3 a0_4 a0_5) a1) 1, (burnF (v6 a0_0 a0_1 a0_2 a0_3 a0_4 a0_5) a1) 2, (burnF (v6 a0_0 a0_1 a0_2 a0_3 a0_4 a0_5) a1) 3, (burnF (v6 a0_0 a0_1 a0_2 a0_3 a0_4 a0_5) a1) 4, (burnF (v6 a0_0 a0_1 a0_2 a0_3 a0_4 a0_5) a1) 5)
theorem xL5Burn.calls (a0_0 a0_1 a0_2 a0_3 a0_4 a0_5 a1 : Int) (r1 : Int) (r2 : Int) (r3 : Int) (r4 : Int) (r5 : Int) (r6 : Int) (w : World) (h : xL5Burn.f a0_0 a0_1 a0_2 a0_3 a0_4 a0_5 a1 = some (r1, r2, r3, r4, r5, r6)) : Calls Try.prog 60 #[.agg #[.int .i64 a0_0, .int .i64 a0_1, .int .i64 a0_2, .int .i64 a0_3, .int .i64 a0_4, .int .i64 a0_5], .int .i64 a1] w fun e w' => e = .returned (.agg #[.int .i64 r1, .int .i64 r2, .int .i64 r3, .int .i64 r4, .int .i64 r5, .int .i64 r6]) ∧ Below w.heap.size w w' := by
  unfold xL5Burn.f at h
  simp only [Option.some.injEq, Prod.mk.injEq] at h
  obtain ⟨rfl, rfl, rfl, rfl, rfl, rfl⟩ := h
  exact l5Burn_any (v6 a0_0 a0_1 a0_2 a0_3 a0_4 a0_5) a1 w
def xEqIntA3.f (a0_0 a0_1 a0_2 a1_0 a1_1 a1_2 : Int) : Option (Bool) := if (eq3B (v3 a0_0 a0_1 a0_2) (v3 a1_0 a1_1 a1_2)) = true then some (true) else none
theorem xEqIntA3.calls (a0_0 a0_1 a0_2 a1_0 a1_1 a1_2 : Int) (r : Bool) (w : World) (h : xEqIntA3.f a0_0 a0_1 a0_2 a1_0 a1_1 a1_2 = some (r)) : Calls Try.prog 42 #[.agg #[.int .i64 a0_0, .int .i64 a0_1, .int .i64 a0_2], .agg #[.int .i64 a1_0, .int .i64 a1_1, .int .i64 a1_2]] w fun e w' => e = .returned (.bool r) ∧ Below w.heap.size w w' := by
  unfold xEqIntA3.f at h
  by_cases g : (eq3B (v3 a0_0 a0_1 a0_2) (v3 a1_0 a1_1 a1_2)) = true
  · rw [if_pos g] at h
    obtain rfl := Option.some.inj h
    exact eqIntA3_if (v3 a0_0 a0_1 a0_2) (v3 a1_0 a1_1 a1_2) g w
  · rw [if_neg g] at h; cases h
end Go.Proofs.Ytdbnajaimodnmaa
