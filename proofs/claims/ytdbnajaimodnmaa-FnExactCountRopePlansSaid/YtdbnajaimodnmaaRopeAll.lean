/- Plain words on ropes: Left at 0, 1, 2, Ends at 3, 4, 5. No statement of the seat is proved here. -/
import Derived.Test.YtdbnajaimodnmaaBase
import Derived.Test.YtdbnajaimodnmaaKit
section
namespace Go.Proofs.Ytdbnajaimodnmaa
open Go.RowKit

def ropeB (r : Nat → Int) (j : Nat) : Bool := inB 0 3840 (r j) && inB 0 2 (r (3 + j)) && !(decide (r j = 0) && !decide (r (3 + j) = 0))
def isRopesB (r : Nat → Int) : Bool := ropeB r 0 && ropeB r 1 && ropeB r 2
/-- ropes that are valid, in inequalities -/
structure Rope (r : Nat → Int) : Prop where
  lo : ∀ j, j < 3 → 0 ≤ r j ∧ r j ≤ 3840
  en : ∀ j, j < 3 → 0 ≤ r (3 + j) ∧ r (3 + j) ≤ 2
  no : ∀ j, j < 3 → r j = 0 → r (3 + j) = 0
theorem three {p : Nat → Prop} (h0 : p 0) (h1 : p 1) (h2 : p 2) : ∀ i, i < 3 → p i := by
  intro i hi
  obtain rfl | rfl | rfl : i = 0 ∨ i = 1 ∨ i = 2 := by omega
  all_goals assumption
theorem rope_of {r : Nat → Int} (h : isRopesB r = true) : Rope r := by
  have q : ∀ j, ropeB r j = true → (0 ≤ r j ∧ r j ≤ 3840) ∧ (0 ≤ r (3 + j) ∧ r (3 + j) ≤ 2) ∧ (r j = 0 → r (3 + j) = 0) := by
    intro j hj
    simp only [ropeB, Bool.and_eq_true, inB_iff, Bool.not_eq_true', Bool.and_eq_false_iff, decide_eq_false_iff_not, Bool.not_eq_false', decide_eq_true_eq] at hj
    refine ⟨hj.1.1, hj.1.2, fun h0 => ?_⟩
    rcases hj.2 with h | h
    · exact absurd h0 h
    · exact h
  simp only [isRopesB, Bool.and_eq_true] at h
  obtain ⟨⟨h0, h1⟩, h2⟩ := h
  exact ⟨three (q 0 h0).1 (q 1 h1).1 (q 2 h2).1, three (q 0 h0).2.1 (q 1 h1).2.1 (q 2 h2).2.1, three (q 0 h0).2.2 (q 1 h1).2.2 (q 2 h2).2.2⟩
def freshB (m : Nat → Int) : Bool := inB 0 60 (m 0) && inB 0 60 (m 1) && inB 0 60 (m 2)
def freshF (m : Nat → Int) : Nat → Int := fun i => if i < 3 then wrap64 (m i * 64) else 0
/-- a lighting of one place is possible -/
def litB (r l : Nat → Int) (j : Nat) : Bool := inB 0 2 (l j) && decide (r (3 + j) + l j ≤ 2) && !(decide (r j = 0) && decide (0 < l j))
def litsB (r l : Nat → Int) : Bool := litB r l 0 && litB r l 1 && litB r l 2
/-- the ropes when the first n places have been lit -/
def litTo (r l : Nat → Int) (n : Nat) : Nat → Int := fun i => if 3 ≤ i ∧ i < 3 + n then r i + l (i - 3) else r i
/-- halves of a tick until the next burning out -/
def hx (r : Nat → Int) (least : Int) (j : Nat) : Int := if r (3 + j) = 0 then least else if least = 0 ∨ 2 * r j / r (3 + j) < least then 2 * r j / r (3 + j) else least
def halvesTo (r : Nat → Int) : Nat → Int
  | 0 => 0
  | j + 1 => hx r (halvesTo r j) j
def halvesF (r : Nat → Int) : Int := halvesTo r 3
def toldF (r : Nat → Int) : Int := if halvesF r % 2 = 0 then halvesF r / 2 else 0
theorem quot_b {a b : Int} (ha : 0 ≤ a ∧ a ≤ 3840) (hb : 1 ≤ b ∧ b ≤ 2) : 0 ≤ 2 * a / b ∧ 2 * a / b ≤ 7680 := by
  obtain rfl | rfl : b = 1 ∨ b = 2 := by omega
  all_goals omega
theorem hx_b {r : Nat → Int} (h : Rope r) {l : Int} (hl : 0 ≤ l ∧ l ≤ 7680) {j : Nat} (hj : j < 3) : 0 ≤ hx r l j ∧ hx r l j ≤ 7680 := by
  unfold hx
  split
  · exact hl
  · split
    · have := h.en j hj
      exact quot_b (h.lo j hj) (by omega)
    · exact hl
theorem Rope.halves {r : Nat → Int} (h : Rope r) : 0 ≤ halvesF r ∧ halvesF r ≤ 7680 := by
  have h0 : (0 : Int) ≤ 0 ∧ (0 : Int) ≤ 7680 := ⟨by omega, by omega⟩
  have h1 := hx_b h h0 (j := 0) (by omega)
  have h2 := hx_b h h1 (j := 1) (by omega)
  exact hx_b h h2 (j := 2) (by omega)
theorem Rope.told {r : Nat → Int} (h : Rope r) : 0 ≤ toldF r ∧ toldF r ≤ 3840 := by
  have := h.halves
  unfold toldF
  split <;> omega
end Go.Proofs.Ytdbnajaimodnmaa
end
section
namespace Go.Proofs.Ytdbnajaimodnmaa
open Go.RowKit
set_option linter.unusedVariables false

theorem toIntA3_any (g : Nat → Int) (w : World) : Calls Try.prog 37 #[A3 g] w fun e w' => e = .returned (A3 g) ∧ Below w.heap.size w w' := by
  all_goals
    go_enter Try.func37, Try.ntmps37
    go_wp2_with fail
    refine wp_loop_rounds 4 ?_
    go_wp2_with (first | (rw [rounds_succ]))
    all_goals refine bodyPost_ret (v := A3 g) (by simp [results, Try.results37, go_sem]) rfl ⟨rfl, by (repeat first | (with_reducible assumption) | (with_reducible exact Below.refl _ _) | ((with_reducible refine bl_alloc _ ?_ ?_); focus (first | (simp; done) | (simp; omega) | omega)) | ((with_reducible refine bl_set _ ?_ ?_); focus (first | (simp; done) | (simp; omega) | omega)) | (with_reducible refine Below.drew ?_) | (with_reducible refine bl_drewN _ ?_))⟩

theorem toRopes_any (r : Nat → Int) (w : World) : Calls Try.prog 18 #[A6 r] w fun e w' => e = .returned (A6 r) ∧ Below w.heap.size w w' := by
  go_enter Try.func18, Try.ntmps18
  go_wp2_with fail
  refine (toIntA3_any r _).mono ?_
  rintro e w1 ⟨rfl, hb1⟩
  have c0 : w1.cell? ⟨w.heap.size, 0, none⟩ = some (.int .i64 (r 0)) := keep_below hb1 (by simp [go_sem])
  have c1 : w1.cell? ⟨w.heap.size, 1, none⟩ = some (.int .i64 (r 1)) := keep_below hb1 (by simp [go_sem])
  have c2 : w1.cell? ⟨w.heap.size, 2, none⟩ = some (.int .i64 (r 2)) := keep_below hb1 (by simp [go_sem])
  have c3 : w1.cell? ⟨w.heap.size, 3, none⟩ = some (.int .i64 (r 3)) := keep_below hb1 (by simp [go_sem])
  have c4 : w1.cell? ⟨w.heap.size, 4, none⟩ = some (.int .i64 (r 4)) := keep_below hb1 (by simp [go_sem])
  have c5 : w1.cell? ⟨w.heap.size, 5, none⟩ = some (.int .i64 (r 5)) := keep_below hb1 (by simp [go_sem])
  have d0 : w1.cell? ⟨w.heap.size + 1, 0, none⟩ = some (.int .i64 0) := keep_below hb1 (by simp [go_sem])
  have d1 : w1.cell? ⟨w.heap.size + 1, 1, none⟩ = some (.int .i64 0) := keep_below hb1 (by simp [go_sem])
  have d2 : w1.cell? ⟨w.heap.size + 1, 2, none⟩ = some (.int .i64 0) := keep_below hb1 (by simp [go_sem])
  have d3 : w1.cell? ⟨w.heap.size + 1, 3, none⟩ = some (.int .i64 0) := keep_below hb1 (by simp [go_sem])
  have d4 : w1.cell? ⟨w.heap.size + 1, 4, none⟩ = some (.int .i64 0) := keep_below hb1 (by simp [go_sem])
  have d5 : w1.cell? ⟨w.heap.size + 1, 5, none⟩ = some (.int .i64 0) := keep_below hb1 (by simp [go_sem])
  have e0 : w1.cell? ⟨w.heap.size + 1 + 1, 0, none⟩ = some (.int .i64 0) := keep_below hb1 (by simp [go_sem])
  have e1 : w1.cell? ⟨w.heap.size + 1 + 1, 1, none⟩ = some (.int .i64 0) := keep_below hb1 (by simp [go_sem])
  have e2 : w1.cell? ⟨w.heap.size + 1 + 1, 2, none⟩ = some (.int .i64 0) := keep_below hb1 (by simp [go_sem])
  have e3 : w1.cell? ⟨w.heap.size + 1 + 1, 3, none⟩ = some (.int .i64 0) := keep_below hb1 (by simp [go_sem])
  have e4 : w1.cell? ⟨w.heap.size + 1 + 1, 4, none⟩ = some (.int .i64 0) := keep_below hb1 (by simp [go_sem])
  have e5 : w1.cell? ⟨w.heap.size + 1 + 1, 5, none⟩ = some (.int .i64 0) := keep_below hb1 (by simp [go_sem])
  obtain ⟨hc1, hf1⟩ := bcell hb1
  have B1 : Below w.heap.size w w1 := below_chain (by (repeat first | (with_reducible assumption) | (with_reducible exact Below.refl _ _) | ((with_reducible refine bl_alloc _ ?_ ?_); focus (first | (simp; done) | (simp; omega) | omega)) | ((with_reducible refine bl_set _ ?_ ?_); focus (first | (simp; done) | (simp; omega) | omega)) | (with_reducible refine Below.drew ?_) | (with_reducible refine bl_drewN _ ?_))) hb1
  have y0 := there c0
  have y1 := there d0
  have y2 := there e0
  clear hb1
  go_wp2_with fail
  refine (toIntA3_any (fun i => r (3 + i)) _).mono ?_
  rintro e w2 ⟨rfl, hb2⟩
  have g0 : w2.cell? ⟨w.heap.size + 1 + 1, 0, none⟩ = some (.int .i64 (r 0)) := keep_below hb2 (by simp [go_sem, *])
  have g1 : w2.cell? ⟨w.heap.size + 1 + 1, 1, none⟩ = some (.int .i64 (r 1)) := keep_below hb2 (by simp [go_sem, *])
  have g2 : w2.cell? ⟨w.heap.size + 1 + 1, 2, none⟩ = some (.int .i64 (r 2)) := keep_below hb2 (by simp [go_sem, *])
  have g3 : w2.cell? ⟨w.heap.size + 1 + 1, 3, none⟩ = some (.int .i64 (0)) := keep_below hb2 (by simp [go_sem, *])
  have g4 : w2.cell? ⟨w.heap.size + 1 + 1, 4, none⟩ = some (.int .i64 (0)) := keep_below hb2 (by simp [go_sem, *])
  have g5 : w2.cell? ⟨w.heap.size + 1 + 1, 5, none⟩ = some (.int .i64 (0)) := keep_below hb2 (by simp [go_sem, *])
  have h0 : w2.cell? ⟨w.heap.size + 1, 0, none⟩ = some (.int .i64 0) := keep_below hb2 (by simp [go_sem, *])
  have h1 : w2.cell? ⟨w.heap.size + 1, 1, none⟩ = some (.int .i64 0) := keep_below hb2 (by simp [go_sem, *])
  have h2 : w2.cell? ⟨w.heap.size + 1, 2, none⟩ = some (.int .i64 0) := keep_below hb2 (by simp [go_sem, *])
  have h3 : w2.cell? ⟨w.heap.size + 1, 3, none⟩ = some (.int .i64 0) := keep_below hb2 (by simp [go_sem, *])
  have h4 : w2.cell? ⟨w.heap.size + 1, 4, none⟩ = some (.int .i64 0) := keep_below hb2 (by simp [go_sem, *])
  have h5 : w2.cell? ⟨w.heap.size + 1, 5, none⟩ = some (.int .i64 0) := keep_below hb2 (by simp [go_sem, *])
  have fg0 : w2.frozen? ⟨w.heap.size + 1 + 1, 0, none⟩ = false := (hb2.frozen (there (W := _) (v := .int .i64 (r 0)) (by simp [go_sem, *]))).trans (by simp [go_sem, *])
  have fg1 : w2.frozen? ⟨w.heap.size + 1 + 1, 1, none⟩ = false := (hb2.frozen (there (W := _) (v := .int .i64 (r 1)) (by simp [go_sem, *]))).trans (by simp [go_sem, *])
  have fg2 : w2.frozen? ⟨w.heap.size + 1 + 1, 2, none⟩ = false := (hb2.frozen (there (W := _) (v := .int .i64 (r 2)) (by simp [go_sem, *]))).trans (by simp [go_sem, *])
  have fg3 : w2.frozen? ⟨w.heap.size + 1 + 1, 3, none⟩ = false := (hb2.frozen (there (W := _) (v := .int .i64 (0)) (by simp [go_sem, *]))).trans (by simp [go_sem, *])
  have fg4 : w2.frozen? ⟨w.heap.size + 1 + 1, 4, none⟩ = false := (hb2.frozen (there (W := _) (v := .int .i64 (0)) (by simp [go_sem, *]))).trans (by simp [go_sem, *])
  have fg5 : w2.frozen? ⟨w.heap.size + 1 + 1, 5, none⟩ = false := (hb2.frozen (there (W := _) (v := .int .i64 (0)) (by simp [go_sem, *]))).trans (by simp [go_sem, *])
  have fh0 : w2.frozen? ⟨w.heap.size + 1, 0, none⟩ = false := (hb2.frozen (there (W := _) (v := .int .i64 0) (by simp [go_sem, *]))).trans (by simp [go_sem, *])
  have fh1 : w2.frozen? ⟨w.heap.size + 1, 1, none⟩ = false := (hb2.frozen (there (W := _) (v := .int .i64 0) (by simp [go_sem, *]))).trans (by simp [go_sem, *])
  have fh2 : w2.frozen? ⟨w.heap.size + 1, 2, none⟩ = false := (hb2.frozen (there (W := _) (v := .int .i64 0) (by simp [go_sem, *]))).trans (by simp [go_sem, *])
  have fh3 : w2.frozen? ⟨w.heap.size + 1, 3, none⟩ = false := (hb2.frozen (there (W := _) (v := .int .i64 0) (by simp [go_sem, *]))).trans (by simp [go_sem, *])
  have fh4 : w2.frozen? ⟨w.heap.size + 1, 4, none⟩ = false := (hb2.frozen (there (W := _) (v := .int .i64 0) (by simp [go_sem, *]))).trans (by simp [go_sem, *])
  have fh5 : w2.frozen? ⟨w.heap.size + 1, 5, none⟩ = false := (hb2.frozen (there (W := _) (v := .int .i64 0) (by simp [go_sem, *]))).trans (by simp [go_sem, *])
  have B2 : Below w.heap.size w w2 := below_chain (by (repeat first | (with_reducible assumption) | (with_reducible exact Below.refl _ _) | ((with_reducible refine bl_alloc _ ?_ ?_); focus (first | (simp; done) | (simp; omega) | omega)) | ((with_reducible refine bl_set _ ?_ ?_); focus (first | (simp; done) | (simp; omega) | omega)) | (with_reducible refine Below.drew ?_) | (with_reducible refine bl_drewN _ ?_))) hb2
  clear hb2 hc1 hf1
  go_wp2_with fail
  refine bodyPost_ret (v := A6 r) (by simp [results, Try.results18, go_sem, *]) rfl ⟨rfl, by (repeat first | (with_reducible assumption) | (with_reducible exact Below.refl _ _) | ((with_reducible refine bl_alloc _ ?_ ?_); focus (first | (simp; done) | (simp; omega) | omega)) | ((with_reducible refine bl_set _ ?_ ?_); focus (first | (simp; done) | (simp; omega) | omega)) | (with_reducible refine Below.drew ?_) | (with_reducible refine bl_drewN _ ?_))⟩

theorem eqIntA3_same (g : Nat → Int) (w : World) : Calls Try.prog 42 #[A3 g, A3 g] w fun e w' => e = .returned (.bool true) ∧ Below w.heap.size w w' := by
  all_goals
    go_enter Try.func42, Try.ntmps42
    go_wp2_with fail
    refine wp_loop_rounds 4 ?_
    go_wp2_with (first | (rw [rounds_succ]) | (go_quiet (fail)))
    all_goals (go_ret; exact ⟨ret_bool (by rfl), by (repeat first | (with_reducible assumption) | (with_reducible exact Below.refl _ _) | ((with_reducible refine bl_alloc _ ?_ ?_); focus (first | (simp; done) | (simp; omega) | omega)) | ((with_reducible refine bl_set _ ?_ ?_); focus (first | (simp; done) | (simp; omega) | omega)) | (with_reducible refine Below.drew ?_) | (with_reducible refine bl_drewN _ ?_))⟩)

set_option maxHeartbeats 1600000 in
theorem isRopes_any (r : Nat → Int) (w : World) : Calls Try.prog 38 #[A6 r] w fun e w' => e = .returned (.bool (isRopesB r)) ∧ Below w.heap.size w w' := by
  have i0 : ∀ w : World, (Instr.index 36 (.agg #[.int .i64 (r 0), .int .i64 (r 1), .int .i64 (r 2)]) (.int .i64 0)).run Try.prog w = .ok (.int .i64 (r 0)) w := fun _ => by kernel_rfl
  have i1 : ∀ w : World, (Instr.index 36 (.agg #[.int .i64 (r 0), .int .i64 (r 1), .int .i64 (r 2)]) (.int .i64 1)).run Try.prog w = .ok (.int .i64 (r 1)) w := fun _ => by kernel_rfl
  have i2 : ∀ w : World, (Instr.index 36 (.agg #[.int .i64 (r 0), .int .i64 (r 1), .int .i64 (r 2)]) (.int .i64 2)).run Try.prog w = .ok (.int .i64 (r 2)) w := fun _ => by kernel_rfl
  cases z0 : (r 0 == 0) <;> cases z1 : (r 1 == 0) <;> cases z2 : (r 2 == 0)
  all_goals
    go_enter Try.func38, Try.ntmps38
    go_wp2_with fail
    refine wp_loop_rounds 4 ?_
    go_wp2_with (first | (rw [rounds_succ]) | (go_at_call 61; refine (within_any _ _ _ _).mono ?_; rintro e w' ⟨rfl, rfl⟩))
    all_goals (go_ret; exact ⟨ret_bool (by simp_all [isRopesB, ropeB]), by (repeat first | (with_reducible assumption) | (with_reducible exact Below.refl _ _) | ((with_reducible refine bl_alloc _ ?_ ?_); focus (first | (simp; done) | (simp; omega) | omega)) | ((with_reducible refine bl_set _ ?_ ?_); focus (first | (simp; done) | (simp; omega) | omega)) | (with_reducible refine Below.drew ?_) | (with_reducible refine bl_drewN _ ?_))⟩)

set_option maxHeartbeats 1600000 in
theorem l5Good_any (r : Nat → Int) (w : World) : Calls Try.prog 35 #[A6 r] w fun e w' => e = .returned (.bool (isRopesB r)) ∧ Below w.heap.size w w' := by
  cases z0 : (r 0 == 0) <;> cases z1 : (r 1 == 0) <;> cases z2 : (r 2 == 0)
  all_goals
    go_enter Try.func35, Try.ntmps35
    go_wp2_with fail
    refine wp_loop_rounds 4 ?_
    go_wp2_with (first | (rw [rounds_succ]) | (go_at_call 50; refine (l1In_any _ _ _ _).mono ?_; rintro e w' ⟨rfl, rfl⟩))
    all_goals (go_ret; exact ⟨ret_bool (by first | (simp_all [isRopesB, ropeB]; done) | (simp_all [isRopesB, ropeB, inB]; omega)), by (repeat first | (with_reducible assumption) | (with_reducible exact Below.refl _ _) | ((with_reducible refine bl_alloc _ ?_ ?_); focus (first | (simp; done) | (simp; omega) | omega)) | ((with_reducible refine bl_set _ ?_ ?_); focus (first | (simp; done) | (simp; omega) | omega)) | (with_reducible refine Below.drew ?_) | (with_reducible refine bl_drewN _ ?_))⟩)

theorem eqRopes_same (r : Nat → Int) (w : World) : Calls Try.prog 21 #[A6 r, A6 r] w fun e w' => e = .returned (.bool true) ∧ Below w.heap.size w w' := by
  go_enter Try.func21, Try.ntmps21
  go_wp2_with fail
  refine (eqIntA3_same r _).mono ?_
  rintro e w1 ⟨rfl, hb1⟩
  have cw100 : w1.cell? ⟨w.heap.size, 0, none⟩ = some (.int .i64 (r 0)) := keep_below hb1 (by first | (with_reducible assumption) | (simp [go_sem]; done))
  have cw101 : w1.cell? ⟨w.heap.size, 1, none⟩ = some (.int .i64 (r 1)) := keep_below hb1 (by first | (with_reducible assumption) | (simp [go_sem]; done))
  have cw102 : w1.cell? ⟨w.heap.size, 2, none⟩ = some (.int .i64 (r 2)) := keep_below hb1 (by first | (with_reducible assumption) | (simp [go_sem]; done))
  have cw103 : w1.cell? ⟨w.heap.size, 3, none⟩ = some (.int .i64 (r 3)) := keep_below hb1 (by first | (with_reducible assumption) | (simp [go_sem]; done))
  have cw104 : w1.cell? ⟨w.heap.size, 4, none⟩ = some (.int .i64 (r 4)) := keep_below hb1 (by first | (with_reducible assumption) | (simp [go_sem]; done))
  have cw105 : w1.cell? ⟨w.heap.size, 5, none⟩ = some (.int .i64 (r 5)) := keep_below hb1 (by first | (with_reducible assumption) | (simp [go_sem]; done))
  have cw110 : w1.cell? ⟨w.heap.size + 1, 0, none⟩ = some (.int .i64 (r 0)) := keep_below hb1 (by first | (with_reducible assumption) | (simp [go_sem]; done))
  have cw111 : w1.cell? ⟨w.heap.size + 1, 1, none⟩ = some (.int .i64 (r 1)) := keep_below hb1 (by first | (with_reducible assumption) | (simp [go_sem]; done))
  have cw112 : w1.cell? ⟨w.heap.size + 1, 2, none⟩ = some (.int .i64 (r 2)) := keep_below hb1 (by first | (with_reducible assumption) | (simp [go_sem]; done))
  have cw113 : w1.cell? ⟨w.heap.size + 1, 3, none⟩ = some (.int .i64 (r 3)) := keep_below hb1 (by first | (with_reducible assumption) | (simp [go_sem]; done))
  have cw114 : w1.cell? ⟨w.heap.size + 1, 4, none⟩ = some (.int .i64 (r 4)) := keep_below hb1 (by first | (with_reducible assumption) | (simp [go_sem]; done))
  have cw115 : w1.cell? ⟨w.heap.size + 1, 5, none⟩ = some (.int .i64 (r 5)) := keep_below hb1 (by first | (with_reducible assumption) | (simp [go_sem]; done))
  have Bw1 : Below w.heap.size w w1 := below_chain (by (repeat first | (with_reducible assumption) | (with_reducible exact Below.refl _ _) | ((with_reducible refine bl_alloc _ ?_ ?_); focus (first | (simp; done) | (simp; omega) | omega)) | ((with_reducible refine bl_set _ ?_ ?_); focus (first | (simp; done) | (simp; omega) | omega)) | (with_reducible refine Below.drew ?_) | (with_reducible refine bl_drewN _ ?_))) hb1
  clear hb1
  go_wp2_with fail
  refine (eqIntA3_same (fun i => r (3 + i)) _).mono ?_
  rintro e w2 ⟨rfl, hb2⟩
  have cw200 : w2.cell? ⟨w.heap.size, 0, none⟩ = some (.int .i64 (r 0)) := keep_below hb2 (by first | (with_reducible assumption) | (simp [go_sem]; done))
  have cw201 : w2.cell? ⟨w.heap.size, 1, none⟩ = some (.int .i64 (r 1)) := keep_below hb2 (by first | (with_reducible assumption) | (simp [go_sem]; done))
  have cw202 : w2.cell? ⟨w.heap.size, 2, none⟩ = some (.int .i64 (r 2)) := keep_below hb2 (by first | (with_reducible assumption) | (simp [go_sem]; done))
  have cw203 : w2.cell? ⟨w.heap.size, 3, none⟩ = some (.int .i64 (r 3)) := keep_below hb2 (by first | (with_reducible assumption) | (simp [go_sem]; done))
  have cw204 : w2.cell? ⟨w.heap.size, 4, none⟩ = some (.int .i64 (r 4)) := keep_below hb2 (by first | (with_reducible assumption) | (simp [go_sem]; done))
  have cw205 : w2.cell? ⟨w.heap.size, 5, none⟩ = some (.int .i64 (r 5)) := keep_below hb2 (by first | (with_reducible assumption) | (simp [go_sem]; done))
  have cw210 : w2.cell? ⟨w.heap.size + 1, 0, none⟩ = some (.int .i64 (r 0)) := keep_below hb2 (by first | (with_reducible assumption) | (simp [go_sem]; done))
  have cw211 : w2.cell? ⟨w.heap.size + 1, 1, none⟩ = some (.int .i64 (r 1)) := keep_below hb2 (by first | (with_reducible assumption) | (simp [go_sem]; done))
  have cw212 : w2.cell? ⟨w.heap.size + 1, 2, none⟩ = some (.int .i64 (r 2)) := keep_below hb2 (by first | (with_reducible assumption) | (simp [go_sem]; done))
  have cw213 : w2.cell? ⟨w.heap.size + 1, 3, none⟩ = some (.int .i64 (r 3)) := keep_below hb2 (by first | (with_reducible assumption) | (simp [go_sem]; done))
  have cw214 : w2.cell? ⟨w.heap.size + 1, 4, none⟩ = some (.int .i64 (r 4)) := keep_below hb2 (by first | (with_reducible assumption) | (simp [go_sem]; done))
  have cw215 : w2.cell? ⟨w.heap.size + 1, 5, none⟩ = some (.int .i64 (r 5)) := keep_below hb2 (by first | (with_reducible assumption) | (simp [go_sem]; done))
  have Bw2 : Below w.heap.size w w2 := below_chain (by (repeat first | (with_reducible assumption) | (with_reducible exact Below.refl _ _) | ((with_reducible refine bl_alloc _ ?_ ?_); focus (first | (simp; done) | (simp; omega) | omega)) | ((with_reducible refine bl_set _ ?_ ?_); focus (first | (simp; done) | (simp; omega) | omega)) | (with_reducible refine Below.drew ?_) | (with_reducible refine bl_drewN _ ?_))) hb2
  clear hb2
  go_wp2_with fail
  go_ret
  exact ⟨rfl, by (repeat first | (with_reducible assumption) | (with_reducible exact Below.refl _ _) | ((with_reducible refine bl_alloc _ ?_ ?_); focus (first | (simp; done) | (simp; omega) | omega)) | ((with_reducible refine bl_set _ ?_ ?_); focus (first | (simp; done) | (simp; omega) | omega)) | (with_reducible refine Below.drew ?_) | (with_reducible refine bl_drewN _ ?_))⟩

end Go.Proofs.Ytdbnajaimodnmaa
end
section
namespace Go.Proofs.Ytdbnajaimodnmaa
open Go.RowKit
set_option linter.unusedVariables false

end Go.Proofs.Ytdbnajaimodnmaa
end
section
namespace Go.Proofs.Ytdbnajaimodnmaa
open Go.RowKit
set_option linter.unusedVariables false

set_option maxHeartbeats 1600000 in
theorem halves_any (r : Nat → Int) (hr : Rope r) (w : World) : Calls Try.prog 62 #[A6 r] w fun e w' => e = .returned (.int .i64 (halvesF r)) ∧ Below w.heap.size w w' := by
  have lo0 := hr.lo 0 (by omega)
  have en0 : 0 ≤ r 3 ∧ r 3 ≤ 2 := hr.en 0 (by omega)
  have lo1 := hr.lo 1 (by omega)
  have en1 : 0 ≤ r 4 ∧ r 4 ≤ 2 := hr.en 1 (by omega)
  have lo2 := hr.lo 2 (by omega)
  have en2 : 0 ≤ r 5 ∧ r 5 ≤ 2 := hr.en 2 (by omega)
  obtain ⟨lo00, lo01⟩ := lo0
  obtain ⟨lo10, lo11⟩ := lo1
  obtain ⟨lo20, lo21⟩ := lo2
  obtain ⟨en00, en01⟩ := en0
  obtain ⟨en10, en11⟩ := en1
  obtain ⟨en20, en21⟩ := en2
  have i0 : ∀ w : World, (Instr.index 36 (.agg #[.int .i64 (r 0), .int .i64 (r 1), .int .i64 (r 2)]) (.int .i64 0)).run Try.prog w = .ok (.int .i64 (r 0)) w := fun _ => by kernel_rfl
  have i1 : ∀ w : World, (Instr.index 36 (.agg #[.int .i64 (r 0), .int .i64 (r 1), .int .i64 (r 2)]) (.int .i64 1)).run Try.prog w = .ok (.int .i64 (r 1)) w := fun _ => by kernel_rfl
  have i2 : ∀ w : World, (Instr.index 36 (.agg #[.int .i64 (r 0), .int .i64 (r 1), .int .i64 (r 2)]) (.int .i64 2)).run Try.prog w = .ok (.int .i64 (r 2)) w := fun _ => by kernel_rfl
  clear hr
  go_enter Try.func62, Try.ntmps62
  go_wp2_with fail
  go_loop [3, 9] (fun l i => ∃ j : Nat, j ≤ 3 ∧ i = .int .i64 j ∧ l = .int .i64 (halvesTo r j)) (fun _ i => 3 - (intOf i).toNat)
  case atStart => exact ⟨0, by omega, rfl, rfl⟩
  case round =>
    obtain ⟨j, hj, rfl, rfl⟩ := hrel
    generalize hl : halvesTo r j = l at *
    have HL : Hid (halvesTo r j = l) := hl
    clear hl
    obtain rfl | rfl | rfl | rfl : j = 0 ∨ j = 1 ∨ j = 2 ∨ j = 3 := by omega
    · by_cases p : r 3 = 0
      · have b1 : (r 3 == 0) = true := by simp [p]
        have P : Hid (r 3 = 0) := p
        clear p
        go_wp2
        go_round
        case rel => exact ⟨0 + 1, by omega, by go_num, by rw [halvesTo, HL.out]; unfold hx; rw [if_pos P.out]⟩
        case measure => simp [intOf]
      · have b1 : (r 3 == 0) = false := by simp [p]
        have p1 : 1 ≤ r 3 := by omega
        clear p
        by_cases c1 : l = 0
        · have b2 : (l == 0) = true := by simp [c1]
          have C : Hid (l = 0) := c1
          clear c1
          go_wp2
          go_round
          case rel => exact ⟨0 + 1, by omega, by go_num, by rw [halvesTo, HL.out]; unfold hx; rw [if_neg (show ¬ r (3 + 0) = 0 from by show ¬ r 3 = 0; omega), if_pos (Or.inl C.out)]⟩
          case measure => simp [intOf]
        · have b2 : (l == 0) = false := by simp [c1]
          by_cases c2 : 2 * r 0 / r 3 < l
          · have C : Hid (l = 0 ∨ 2 * r 0 / r (3 + 0) < l) := Or.inr c2
            clear c1
            go_wp2
            go_round
            case rel => exact ⟨0 + 1, by omega, by go_num, by rw [halvesTo, HL.out]; unfold hx; rw [if_neg (show ¬ r (3 + 0) = 0 from by show ¬ r 3 = 0; omega), if_pos C.out]⟩
            case measure => simp [intOf]
          · have C : Hid (¬ (l = 0 ∨ 2 * r 0 / r (3 + 0) < l)) := fun h => h.elim c1 c2
            clear c1
            go_wp2
            go_round
            case rel => exact ⟨0 + 1, by omega, by go_num, by rw [halvesTo, HL.out]; unfold hx; rw [if_neg (show ¬ r (3 + 0) = 0 from by show ¬ r 3 = 0; omega), if_neg C.out]⟩
            case measure => simp [intOf]
    · by_cases p : r 4 = 0
      · have b1 : (r 4 == 0) = true := by simp [p]
        have P : Hid (r 4 = 0) := p
        clear p
        go_wp2
        go_round
        case rel => exact ⟨1 + 1, by omega, by go_num, by rw [halvesTo, HL.out]; unfold hx; rw [if_pos P.out]⟩
        case measure => simp [intOf]
      · have b1 : (r 4 == 0) = false := by simp [p]
        have p1 : 1 ≤ r 4 := by omega
        clear p
        by_cases c1 : l = 0
        · have b2 : (l == 0) = true := by simp [c1]
          have C : Hid (l = 0) := c1
          clear c1
          go_wp2
          go_round
          case rel => exact ⟨1 + 1, by omega, by go_num, by rw [halvesTo, HL.out]; unfold hx; rw [if_neg (show ¬ r (3 + 1) = 0 from by show ¬ r 4 = 0; omega), if_pos (Or.inl C.out)]⟩
          case measure => simp [intOf]
        · have b2 : (l == 0) = false := by simp [c1]
          by_cases c2 : 2 * r 1 / r 4 < l
          · have C : Hid (l = 0 ∨ 2 * r 1 / r (3 + 1) < l) := Or.inr c2
            clear c1
            go_wp2
            go_round
            case rel => exact ⟨1 + 1, by omega, by go_num, by rw [halvesTo, HL.out]; unfold hx; rw [if_neg (show ¬ r (3 + 1) = 0 from by show ¬ r 4 = 0; omega), if_pos C.out]⟩
            case measure => simp [intOf]
          · have C : Hid (¬ (l = 0 ∨ 2 * r 1 / r (3 + 1) < l)) := fun h => h.elim c1 c2
            clear c1
            go_wp2
            go_round
            case rel => exact ⟨1 + 1, by omega, by go_num, by rw [halvesTo, HL.out]; unfold hx; rw [if_neg (show ¬ r (3 + 1) = 0 from by show ¬ r 4 = 0; omega), if_neg C.out]⟩
            case measure => simp [intOf]
    · by_cases p : r 5 = 0
      · have b1 : (r 5 == 0) = true := by simp [p]
        have P : Hid (r 5 = 0) := p
        clear p
        go_wp2
        go_round
        case rel => exact ⟨2 + 1, by omega, by go_num, by rw [halvesTo, HL.out]; unfold hx; rw [if_pos P.out]⟩
        case measure => simp [intOf]
      · have b1 : (r 5 == 0) = false := by simp [p]
        have p1 : 1 ≤ r 5 := by omega
        clear p
        by_cases c1 : l = 0
        · have b2 : (l == 0) = true := by simp [c1]
          have C : Hid (l = 0) := c1
          clear c1
          go_wp2
          go_round
          case rel => exact ⟨2 + 1, by omega, by go_num, by rw [halvesTo, HL.out]; unfold hx; rw [if_neg (show ¬ r (3 + 2) = 0 from by show ¬ r 5 = 0; omega), if_pos (Or.inl C.out)]⟩
          case measure => simp [intOf]
        · have b2 : (l == 0) = false := by simp [c1]
          by_cases c2 : 2 * r 2 / r 5 < l
          · have C : Hid (l = 0 ∨ 2 * r 2 / r (3 + 2) < l) := Or.inr c2
            clear c1
            go_wp2
            go_round
            case rel => exact ⟨2 + 1, by omega, by go_num, by rw [halvesTo, HL.out]; unfold hx; rw [if_neg (show ¬ r (3 + 2) = 0 from by show ¬ r 5 = 0; omega), if_pos C.out]⟩
            case measure => simp [intOf]
          · have C : Hid (¬ (l = 0 ∨ 2 * r 2 / r (3 + 2) < l)) := fun h => h.elim c1 c2
            clear c1
            go_wp2
            go_round
            case rel => exact ⟨2 + 1, by omega, by go_num, by rw [halvesTo, HL.out]; unfold hx; rw [if_neg (show ¬ r (3 + 2) = 0 from by show ¬ r 5 = 0; omega), if_neg C.out]⟩
            case measure => simp [intOf]
    · go_wp2
      go_ret
      exact ⟨ret_int HL.out.symm, by (repeat first | (with_reducible assumption) | (with_reducible exact Below.refl _ _) | ((with_reducible refine bl_alloc _ ?_ ?_); focus (first | (simp; done) | (simp; omega) | omega)) | ((with_reducible refine bl_set _ ?_ ?_); focus (first | (simp; done) | (simp; omega) | omega)) | (with_reducible refine Below.drew ?_) | (with_reducible refine bl_drewN _ ?_))⟩

theorem told_any (r : Nat → Int) (hr : Rope r) (w : World) : Calls Try.prog 40 #[A6 r] w fun e w' => e = .returned (.int .i64 (toldF r)) ∧ Below w.heap.size w w' := by
  have hb := hr.halves
  obtain ⟨hb0, hb1⟩ := hb
  cases z : (halvesF r % 2 == 0)
  all_goals
    have Z := z
    have ZH : Hid ((halvesF r % 2 == 0) = _) := Z
    clear Z
    go_enter Try.func40, Try.ntmps40
    go_wp2_with (first | (go_at_call 62; refine (halves_any r hr _).mono ?_; rintro e w' ⟨rfl, hb⟩; have hB : Below w.heap.size w w' := Below.trans (by (repeat first | (with_reducible assumption) | (with_reducible exact Below.refl _ _) | ((with_reducible refine bl_alloc _ ?_ ?_); focus (first | (simp; done) | (simp; omega) | omega)) | ((with_reducible refine bl_set _ ?_ ?_); focus (first | (simp; done) | (simp; omega) | omega)) | (with_reducible refine Below.drew ?_) | (with_reducible refine bl_drewN _ ?_))) (hb.mono (by first | (simp; done) | (simp; omega) | omega)); obtain ⟨hc, hf⟩ := bcell hb; have hz := hb.size; (try simp at hz); (try have hy0 : w.heap.size < w'.heap.size := by omega); (try have hy1 : w.heap.size + 1 < w'.heap.size := by omega); (try have hy2 : w.heap.size + 1 + 1 < w'.heap.size := by omega); (try have hy3 : w.heap.size + 1 + 1 + 1 < w'.heap.size := by omega); clear hb))
    go_ret
    exact ⟨ret_int (by unfold toldF; first | (rw [if_pos (by simpa using ZH.out)]) | (rw [if_neg (by simpa using ZH.out)])), by (repeat first | (with_reducible assumption) | (with_reducible exact Below.refl _ _) | ((with_reducible refine bl_alloc _ ?_ ?_); focus (first | (simp; done) | (simp; omega) | omega)) | ((with_reducible refine bl_set _ ?_ ?_); focus (first | (simp; done) | (simp; omega) | omega)) | (with_reducible refine Below.drew ?_) | (with_reducible refine bl_drewN _ ?_))⟩

set_option maxHeartbeats 1600000 in
theorem l5Next_any (r : Nat → Int) (hr : Rope r) (w : World) : Calls Try.prog 59 #[A6 r] w fun e w' => e = .returned (.int .i64 (toldF r)) ∧ Below w.heap.size w w' := by
  have hbh := hr.halves
  obtain ⟨hbh0, hbh1⟩ := hbh
  have lo0 := hr.lo 0 (by omega)
  have en0 : 0 ≤ r 3 ∧ r 3 ≤ 2 := hr.en 0 (by omega)
  have lo1 := hr.lo 1 (by omega)
  have en1 : 0 ≤ r 4 ∧ r 4 ≤ 2 := hr.en 1 (by omega)
  have lo2 := hr.lo 2 (by omega)
  have en2 : 0 ≤ r 5 ∧ r 5 ≤ 2 := hr.en 2 (by omega)
  obtain ⟨lo00, lo01⟩ := lo0
  obtain ⟨lo10, lo11⟩ := lo1
  obtain ⟨lo20, lo21⟩ := lo2
  obtain ⟨en00, en01⟩ := en0
  obtain ⟨en10, en11⟩ := en1
  obtain ⟨en20, en21⟩ := en2
  have i0 : ∀ w : World, (Instr.index 36 (.agg #[.int .i64 (r 0), .int .i64 (r 1), .int .i64 (r 2)]) (.int .i64 0)).run Try.prog w = .ok (.int .i64 (r 0)) w := fun _ => by kernel_rfl
  have i1 : ∀ w : World, (Instr.index 36 (.agg #[.int .i64 (r 0), .int .i64 (r 1), .int .i64 (r 2)]) (.int .i64 1)).run Try.prog w = .ok (.int .i64 (r 1)) w := fun _ => by kernel_rfl
  have i2 : ∀ w : World, (Instr.index 36 (.agg #[.int .i64 (r 0), .int .i64 (r 1), .int .i64 (r 2)]) (.int .i64 2)).run Try.prog w = .ok (.int .i64 (r 2)) w := fun _ => by kernel_rfl
  have HB : Hid (0 ≤ halvesF r ∧ halvesF r ≤ 7680) := ⟨hbh0, hbh1⟩
  clear hr hbh0 hbh1
  go_enter Try.func59, Try.ntmps59
  go_wp2_with fail
  go_loopw [3, 4] (fun l i wr => ∃ j : Nat, j ≤ 3 ∧ i = .int .i64 j ∧ l = .int .i64 (halvesTo r j) ∧ Below w.heap.size w wr ∧ wr.cell? ⟨w.heap.size, 0, none⟩ = some (.int .i64 (r 0)) ∧ wr.cell? ⟨w.heap.size, 1, none⟩ = some (.int .i64 (r 1)) ∧ wr.cell? ⟨w.heap.size, 2, none⟩ = some (.int .i64 (r 2)) ∧ wr.cell? ⟨w.heap.size, 3, none⟩ = some (.int .i64 (r 3)) ∧ wr.cell? ⟨w.heap.size, 4, none⟩ = some (.int .i64 (r 4)) ∧ wr.cell? ⟨w.heap.size, 5, none⟩ = some (.int .i64 (r 5))) (fun _ i _ => 3 - (intOf i).toNat)
  case atStart => exact ⟨0, by omega, rfl, rfl, (Below.refl _ _).alloc (Nat.le_refl _) _, by simp, by simp, by simp, by simp, by simp, by simp⟩
  case round =>
    obtain ⟨j, hj, rfl, rfl, hB, cc0, cc1, cc2, cc3, cc4, cc5⟩ := hrel
    generalize hl : halvesTo r j = l at *
    have HL : Hid (halvesTo r j = l) := hl
    clear hl
    obtain rfl | rfl | rfl | rfl : j = 0 ∨ j = 1 ∨ j = 2 ∨ j = 3 := by omega
    · by_cases p : r 3 = 0
      · have b1 : decide (0 < r 3) = false := by simp [p]
        have P : Hid (r 3 = 0) := p
        clear p
        go_wp2_with (first | (go_quiet (fail)))
        go_roundw
        case rel => exact ⟨0 + 1, by omega, by go_num, by rw [halvesTo, HL.out]; unfold hx; rw [if_pos P.out], by (repeat first | (with_reducible assumption) | (with_reducible exact Below.refl _ _) | ((with_reducible refine bl_alloc _ ?_ ?_); focus (first | (simp; done) | (simp; omega) | omega)) | ((with_reducible refine bl_set _ ?_ ?_); focus (first | (simp; done) | (simp; omega) | omega)) | (with_reducible refine Below.drew ?_) | (with_reducible refine bl_drewN _ ?_)), by simpa using cc0, by simpa using cc1, by simpa using cc2, by simpa using cc3, by simpa using cc4, by simpa using cc5⟩
        case measure => simp [intOf]
      · have b1 : decide (0 < r 3) = true := decide_eq_true (by omega)
        have p1 : 1 ≤ r 3 := by omega
        clear p
        by_cases c1 : l = 0
        · have b2 : (l == 0) = true := by simp [c1]
          have C : Hid (l = 0) := c1
          clear c1
          go_wp2_with (first | (go_quiet (fail)))
          go_roundw
          case rel => exact ⟨0 + 1, by omega, by go_num, by rw [halvesTo, HL.out]; unfold hx; rw [if_neg (show ¬ r (3 + 0) = 0 from by show ¬ r 3 = 0; omega), if_pos (Or.inl C.out)], by (repeat first | (with_reducible assumption) | (with_reducible exact Below.refl _ _) | ((with_reducible refine bl_alloc _ ?_ ?_); focus (first | (simp; done) | (simp; omega) | omega)) | ((with_reducible refine bl_set _ ?_ ?_); focus (first | (simp; done) | (simp; omega) | omega)) | (with_reducible refine Below.drew ?_) | (with_reducible refine bl_drewN _ ?_)), by simpa using cc0, by simpa using cc1, by simpa using cc2, by simpa using cc3, by simpa using cc4, by simpa using cc5⟩
          case measure => simp [intOf]
        · have b2 : (l == 0) = false := by simp [c1]
          by_cases c2 : 2 * r 0 / r 3 < l
          · have C : Hid (l = 0 ∨ 2 * r 0 / r (3 + 0) < l) := Or.inr c2
            clear c1
            go_wp2_with (first | (go_quiet (fail)))
            go_roundw
            case rel => exact ⟨0 + 1, by omega, by go_num, by rw [halvesTo, HL.out]; unfold hx; rw [if_neg (show ¬ r (3 + 0) = 0 from by show ¬ r 3 = 0; omega), if_pos C.out], by (repeat first | (with_reducible assumption) | (with_reducible exact Below.refl _ _) | ((with_reducible refine bl_alloc _ ?_ ?_); focus (first | (simp; done) | (simp; omega) | omega)) | ((with_reducible refine bl_set _ ?_ ?_); focus (first | (simp; done) | (simp; omega) | omega)) | (with_reducible refine Below.drew ?_) | (with_reducible refine bl_drewN _ ?_)), by simpa using cc0, by simpa using cc1, by simpa using cc2, by simpa using cc3, by simpa using cc4, by simpa using cc5⟩
            case measure => simp [intOf]
          · have C : Hid (¬ (l = 0 ∨ 2 * r 0 / r (3 + 0) < l)) := fun h => h.elim c1 c2
            clear c1
            go_wp2_with (first | (go_quiet (fail)))
            go_roundw
            case rel => exact ⟨0 + 1, by omega, by go_num, by rw [halvesTo, HL.out]; unfold hx; rw [if_neg (show ¬ r (3 + 0) = 0 from by show ¬ r 3 = 0; omega), if_neg C.out], by (repeat first | (with_reducible assumption) | (with_reducible exact Below.refl _ _) | ((with_reducible refine bl_alloc _ ?_ ?_); focus (first | (simp; done) | (simp; omega) | omega)) | ((with_reducible refine bl_set _ ?_ ?_); focus (first | (simp; done) | (simp; omega) | omega)) | (with_reducible refine Below.drew ?_) | (with_reducible refine bl_drewN _ ?_)), by simpa using cc0, by simpa using cc1, by simpa using cc2, by simpa using cc3, by simpa using cc4, by simpa using cc5⟩
            case measure => simp [intOf]
    · by_cases p : r 4 = 0
      · have b1 : decide (0 < r 4) = false := by simp [p]
        have P : Hid (r 4 = 0) := p
        clear p
        go_wp2_with (first | (go_quiet (fail)))
        go_roundw
        case rel => exact ⟨1 + 1, by omega, by go_num, by rw [halvesTo, HL.out]; unfold hx; rw [if_pos P.out], by (repeat first | (with_reducible assumption) | (with_reducible exact Below.refl _ _) | ((with_reducible refine bl_alloc _ ?_ ?_); focus (first | (simp; done) | (simp; omega) | omega)) | ((with_reducible refine bl_set _ ?_ ?_); focus (first | (simp; done) | (simp; omega) | omega)) | (with_reducible refine Below.drew ?_) | (with_reducible refine bl_drewN _ ?_)), by simpa using cc0, by simpa using cc1, by simpa using cc2, by simpa using cc3, by simpa using cc4, by simpa using cc5⟩
        case measure => simp [intOf]
      · have b1 : decide (0 < r 4) = true := decide_eq_true (by omega)
        have p1 : 1 ≤ r 4 := by omega
        clear p
        by_cases c1 : l = 0
        · have b2 : (l == 0) = true := by simp [c1]
          have C : Hid (l = 0) := c1
          clear c1
          go_wp2_with (first | (go_quiet (fail)))
          go_roundw
          case rel => exact ⟨1 + 1, by omega, by go_num, by rw [halvesTo, HL.out]; unfold hx; rw [if_neg (show ¬ r (3 + 1) = 0 from by show ¬ r 4 = 0; omega), if_pos (Or.inl C.out)], by (repeat first | (with_reducible assumption) | (with_reducible exact Below.refl _ _) | ((with_reducible refine bl_alloc _ ?_ ?_); focus (first | (simp; done) | (simp; omega) | omega)) | ((with_reducible refine bl_set _ ?_ ?_); focus (first | (simp; done) | (simp; omega) | omega)) | (with_reducible refine Below.drew ?_) | (with_reducible refine bl_drewN _ ?_)), by simpa using cc0, by simpa using cc1, by simpa using cc2, by simpa using cc3, by simpa using cc4, by simpa using cc5⟩
          case measure => simp [intOf]
        · have b2 : (l == 0) = false := by simp [c1]
          by_cases c2 : 2 * r 1 / r 4 < l
          · have C : Hid (l = 0 ∨ 2 * r 1 / r (3 + 1) < l) := Or.inr c2
            clear c1
            go_wp2_with (first | (go_quiet (fail)))
            go_roundw
            case rel => exact ⟨1 + 1, by omega, by go_num, by rw [halvesTo, HL.out]; unfold hx; rw [if_neg (show ¬ r (3 + 1) = 0 from by show ¬ r 4 = 0; omega), if_pos C.out], by (repeat first | (with_reducible assumption) | (with_reducible exact Below.refl _ _) | ((with_reducible refine bl_alloc _ ?_ ?_); focus (first | (simp; done) | (simp; omega) | omega)) | ((with_reducible refine bl_set _ ?_ ?_); focus (first | (simp; done) | (simp; omega) | omega)) | (with_reducible refine Below.drew ?_) | (with_reducible refine bl_drewN _ ?_)), by simpa using cc0, by simpa using cc1, by simpa using cc2, by simpa using cc3, by simpa using cc4, by simpa using cc5⟩
            case measure => simp [intOf]
          · have C : Hid (¬ (l = 0 ∨ 2 * r 1 / r (3 + 1) < l)) := fun h => h.elim c1 c2
            clear c1
            go_wp2_with (first | (go_quiet (fail)))
            go_roundw
            case rel => exact ⟨1 + 1, by omega, by go_num, by rw [halvesTo, HL.out]; unfold hx; rw [if_neg (show ¬ r (3 + 1) = 0 from by show ¬ r 4 = 0; omega), if_neg C.out], by (repeat first | (with_reducible assumption) | (with_reducible exact Below.refl _ _) | ((with_reducible refine bl_alloc _ ?_ ?_); focus (first | (simp; done) | (simp; omega) | omega)) | ((with_reducible refine bl_set _ ?_ ?_); focus (first | (simp; done) | (simp; omega) | omega)) | (with_reducible refine Below.drew ?_) | (with_reducible refine bl_drewN _ ?_)), by simpa using cc0, by simpa using cc1, by simpa using cc2, by simpa using cc3, by simpa using cc4, by simpa using cc5⟩
            case measure => simp [intOf]
    · by_cases p : r 5 = 0
      · have b1 : decide (0 < r 5) = false := by simp [p]
        have P : Hid (r 5 = 0) := p
        clear p
        go_wp2_with (first | (go_quiet (fail)))
        go_roundw
        case rel => exact ⟨2 + 1, by omega, by go_num, by rw [halvesTo, HL.out]; unfold hx; rw [if_pos P.out], by (repeat first | (with_reducible assumption) | (with_reducible exact Below.refl _ _) | ((with_reducible refine bl_alloc _ ?_ ?_); focus (first | (simp; done) | (simp; omega) | omega)) | ((with_reducible refine bl_set _ ?_ ?_); focus (first | (simp; done) | (simp; omega) | omega)) | (with_reducible refine Below.drew ?_) | (with_reducible refine bl_drewN _ ?_)), by simpa using cc0, by simpa using cc1, by simpa using cc2, by simpa using cc3, by simpa using cc4, by simpa using cc5⟩
        case measure => simp [intOf]
      · have b1 : decide (0 < r 5) = true := decide_eq_true (by omega)
        have p1 : 1 ≤ r 5 := by omega
        clear p
        by_cases c1 : l = 0
        · have b2 : (l == 0) = true := by simp [c1]
          have C : Hid (l = 0) := c1
          clear c1
          go_wp2_with (first | (go_quiet (fail)))
          go_roundw
          case rel => exact ⟨2 + 1, by omega, by go_num, by rw [halvesTo, HL.out]; unfold hx; rw [if_neg (show ¬ r (3 + 2) = 0 from by show ¬ r 5 = 0; omega), if_pos (Or.inl C.out)], by (repeat first | (with_reducible assumption) | (with_reducible exact Below.refl _ _) | ((with_reducible refine bl_alloc _ ?_ ?_); focus (first | (simp; done) | (simp; omega) | omega)) | ((with_reducible refine bl_set _ ?_ ?_); focus (first | (simp; done) | (simp; omega) | omega)) | (with_reducible refine Below.drew ?_) | (with_reducible refine bl_drewN _ ?_)), by simpa using cc0, by simpa using cc1, by simpa using cc2, by simpa using cc3, by simpa using cc4, by simpa using cc5⟩
          case measure => simp [intOf]
        · have b2 : (l == 0) = false := by simp [c1]
          by_cases c2 : 2 * r 2 / r 5 < l
          · have C : Hid (l = 0 ∨ 2 * r 2 / r (3 + 2) < l) := Or.inr c2
            clear c1
            go_wp2_with (first | (go_quiet (fail)))
            go_roundw
            case rel => exact ⟨2 + 1, by omega, by go_num, by rw [halvesTo, HL.out]; unfold hx; rw [if_neg (show ¬ r (3 + 2) = 0 from by show ¬ r 5 = 0; omega), if_pos C.out], by (repeat first | (with_reducible assumption) | (with_reducible exact Below.refl _ _) | ((with_reducible refine bl_alloc _ ?_ ?_); focus (first | (simp; done) | (simp; omega) | omega)) | ((with_reducible refine bl_set _ ?_ ?_); focus (first | (simp; done) | (simp; omega) | omega)) | (with_reducible refine Below.drew ?_) | (with_reducible refine bl_drewN _ ?_)), by simpa using cc0, by simpa using cc1, by simpa using cc2, by simpa using cc3, by simpa using cc4, by simpa using cc5⟩
            case measure => simp [intOf]
          · have C : Hid (¬ (l = 0 ∨ 2 * r 2 / r (3 + 2) < l)) := fun h => h.elim c1 c2
            clear c1
            go_wp2_with (first | (go_quiet (fail)))
            go_roundw
            case rel => exact ⟨2 + 1, by omega, by go_num, by rw [halvesTo, HL.out]; unfold hx; rw [if_neg (show ¬ r (3 + 2) = 0 from by show ¬ r 5 = 0; omega), if_neg C.out], by (repeat first | (with_reducible assumption) | (with_reducible exact Below.refl _ _) | ((with_reducible refine bl_alloc _ ?_ ?_); focus (first | (simp; done) | (simp; omega) | omega)) | ((with_reducible refine bl_set _ ?_ ?_); focus (first | (simp; done) | (simp; omega) | omega)) | (with_reducible refine Below.drew ?_) | (with_reducible refine bl_drewN _ ?_)), by simpa using cc0, by simpa using cc1, by simpa using cc2, by simpa using cc3, by simpa using cc4, by simpa using cc5⟩
            case measure => simp [intOf]
    · have HE : halvesF r = l := HL.out
      have hb := HB.out
      rw [HE] at hb
      obtain ⟨hb0, hb1⟩ := hb
      have Q0 : toldF r = if l % 2 = 0 then l / 2 else 0 := by unfold toldF; rw [HE]
      have Q : Hid (toldF r = if l % 2 = 0 then l / 2 else 0) := Q0
      clear Q0
      clear HE
      have hm : l % 2 = 0 ∨ l % 2 = 1 := by omega
      rcases hm with z | z
      · have b1 : (l % 2 == 1) = false := by rw [z]; rfl
        have Z : Hid (l % 2 = 0) := z
        clear z
        go_wp2_with fail
        go_ret
        exact ⟨ret_int (by rw [Q.out, if_pos Z.out]), by (repeat first | (with_reducible assumption) | (with_reducible exact Below.refl _ _) | ((with_reducible refine bl_alloc _ ?_ ?_); focus (first | (simp; done) | (simp; omega) | omega)) | ((with_reducible refine bl_set _ ?_ ?_); focus (first | (simp; done) | (simp; omega) | omega)) | (with_reducible refine Below.drew ?_) | (with_reducible refine bl_drewN _ ?_))⟩
      · have b1 : (l % 2 == 1) = true := by rw [z]; rfl
        have Z : Hid (l % 2 = 1) := z
        clear z
        go_wp2_with fail
        go_ret
        exact ⟨ret_int (by rw [Q.out, if_neg (by rw [Z.out]; omega)]), by (repeat first | (with_reducible assumption) | (with_reducible exact Below.refl _ _) | ((with_reducible refine bl_alloc _ ?_ ?_); focus (first | (simp; done) | (simp; omega) | omega)) | ((with_reducible refine bl_set _ ?_ ?_); focus (first | (simp; done) | (simp; omega) | omega)) | (with_reducible refine Below.drew ?_) | (with_reducible refine bl_drewN _ ?_))⟩

end Go.Proofs.Ytdbnajaimodnmaa
end
section
namespace Go.Proofs.Ytdbnajaimodnmaa
open Go.RowKit
set_option linter.unusedVariables false
theorem lits_no {r l : Nat → Int} {j : Nat} (hj : j < 3) (h : litB r l j = false) : litsB r l = false := by
  obtain rfl | rfl | rfl : j = 0 ∨ j = 1 ∨ j = 2 := by omega
  all_goals simp [litsB, h]
theorem lits_yes {r l : Nat → Int} (h : ∀ i, i < 3 → litB r l i = true) : litsB r l = true := by
  simp [litsB, h 0 (by omega), h 1 (by omega), h 2 (by omega)]
theorem lits_more {r l : Nat → Int} {j : Nat} (h : ∀ i, i < j → litB r l i = true) (hj : litB r l j = true) : ∀ i, i < j + 1 → litB r l i = true := by
  intro i hi
  by_cases e : i = j
  · subst e; exact hj
  · exact h i (by omega)

set_option maxHeartbeats 3200000 in
theorem light_any (r l : Nat → Int) (hr : Rope r) (w : World) : Calls Try.prog 39 #[A6 r, A3 l] w fun e w' => e = .returned (.tuple #[A6 (opt (litTo r l 3) (litsB r l)), .bool (litsB r l)]) ∧ Below w.heap.size w w' := by
  have lo0 := hr.lo 0 (by omega)
  have en0 : 0 ≤ r 3 ∧ r 3 ≤ 2 := hr.en 0 (by omega)
  have lo1 := hr.lo 1 (by omega)
  have en1 : 0 ≤ r 4 ∧ r 4 ≤ 2 := hr.en 1 (by omega)
  have lo2 := hr.lo 2 (by omega)
  have en2 : 0 ≤ r 5 ∧ r 5 ≤ 2 := hr.en 2 (by omega)
  obtain ⟨lo00, lo01⟩ := lo0
  obtain ⟨lo10, lo11⟩ := lo1
  obtain ⟨lo20, lo21⟩ := lo2
  obtain ⟨en00, en01⟩ := en0
  obtain ⟨en10, en11⟩ := en1
  obtain ⟨en20, en21⟩ := en2
  have i0 : ∀ w : World, (Instr.index 36 (.agg #[.int .i64 (r 0), .int .i64 (r 1), .int .i64 (r 2)]) (.int .i64 0)).run Try.prog w = .ok (.int .i64 (r 0)) w := fun _ => by kernel_rfl
  have i1 : ∀ w : World, (Instr.index 36 (.agg #[.int .i64 (r 0), .int .i64 (r 1), .int .i64 (r 2)]) (.int .i64 1)).run Try.prog w = .ok (.int .i64 (r 1)) w := fun _ => by kernel_rfl
  have i2 : ∀ w : World, (Instr.index 36 (.agg #[.int .i64 (r 0), .int .i64 (r 1), .int .i64 (r 2)]) (.int .i64 2)).run Try.prog w = .ok (.int .i64 (r 2)) w := fun _ => by kernel_rfl
  have il0 : ∀ w : World, (Instr.index 36 (A3 l) (.int .i64 0)).run Try.prog w = .ok (.int .i64 (l 0)) w := fun _ => by kernel_rfl
  have il1 : ∀ w : World, (Instr.index 36 (A3 l) (.int .i64 1)).run Try.prog w = .ok (.int .i64 (l 1)) w := fun _ => by kernel_rfl
  have il2 : ∀ w : World, (Instr.index 36 (A3 l) (.int .i64 2)).run Try.prog w = .ok (.int .i64 (l 2)) w := fun _ => by kernel_rfl
  clear hr
  go_enter Try.func39, Try.ntmps39
  go_wp2_with fail
  go_loopw [9] (fun i wr => ∃ j : Nat, j ≤ 3 ∧ i = .int .i64 j ∧ Hid (∀ i, i < j → litB r l i = true) ∧ Below w.heap.size w wr ∧ wr.cell? ⟨w.heap.size, 0, none⟩ = some (.int .i64 (litTo r l j 0)) ∧ wr.cell? ⟨w.heap.size, 1, none⟩ = some (.int .i64 (litTo r l j 1)) ∧ wr.cell? ⟨w.heap.size, 2, none⟩ = some (.int .i64 (litTo r l j 2)) ∧ wr.cell? ⟨w.heap.size, 3, none⟩ = some (.int .i64 (litTo r l j 3)) ∧ wr.cell? ⟨w.heap.size, 4, none⟩ = some (.int .i64 (litTo r l j 4)) ∧ wr.cell? ⟨w.heap.size, 5, none⟩ = some (.int .i64 (litTo r l j 5)) ∧ wr.frozen? ⟨w.heap.size, 3, none⟩ = false ∧ wr.frozen? ⟨w.heap.size, 4, none⟩ = false ∧ wr.frozen? ⟨w.heap.size, 5, none⟩ = false ∧ wr.cell? ⟨w.heap.size + 1, 0, none⟩ = some (.int .i64 (l 0)) ∧ wr.cell? ⟨w.heap.size + 1, 1, none⟩ = some (.int .i64 (l 1)) ∧ wr.cell? ⟨w.heap.size + 1, 2, none⟩ = some (.int .i64 (l 2)) ∧ wr.cell? ⟨w.heap.size + 1 + 1, 0, none⟩ = some (.int .i64 0) ∧ wr.cell? ⟨w.heap.size + 1 + 1, 1, none⟩ = some (.int .i64 0) ∧ wr.cell? ⟨w.heap.size + 1 + 1, 2, none⟩ = some (.int .i64 0) ∧ wr.cell? ⟨w.heap.size + 1 + 1, 3, none⟩ = some (.int .i64 0) ∧ wr.cell? ⟨w.heap.size + 1 + 1, 4, none⟩ = some (.int .i64 0) ∧ wr.cell? ⟨w.heap.size + 1 + 1, 5, none⟩ = some (.int .i64 0) ∧ wr.frozen? ⟨w.heap.size + 1 + 1, 0, none⟩ = false ∧ wr.frozen? ⟨w.heap.size + 1 + 1, 1, none⟩ = false ∧ wr.frozen? ⟨w.heap.size + 1 + 1, 2, none⟩ = false ∧ wr.frozen? ⟨w.heap.size + 1 + 1, 3, none⟩ = false ∧ wr.frozen? ⟨w.heap.size + 1 + 1, 4, none⟩ = false ∧ wr.frozen? ⟨w.heap.size + 1 + 1, 5, none⟩ = false) (fun i _ => 3 - (intOf i).toNat)
  case atStart => exact ⟨0, by omega, rfl, (fun i hi => absurd hi (Nat.not_lt_zero i) : ∀ i, i < 0 → litB r l i = true), by (repeat first | (with_reducible assumption) | (with_reducible exact Below.refl _ _) | ((with_reducible refine bl_alloc _ ?_ ?_); focus (first | (simp; done) | (simp; omega) | omega)) | ((with_reducible refine bl_set _ ?_ ?_); focus (first | (simp; done) | (simp; omega) | omega)) | (with_reducible refine Below.drew ?_) | (with_reducible refine bl_drewN _ ?_)), by rw [show litTo r l 0 0 = r 0 from rfl]; simp [go_sem], by rw [show litTo r l 0 1 = r 1 from rfl]; simp [go_sem], by rw [show litTo r l 0 2 = r 2 from rfl]; simp [go_sem], by rw [show litTo r l 0 3 = r 3 from rfl]; simp [go_sem], by rw [show litTo r l 0 4 = r 4 from rfl]; simp [go_sem], by rw [show litTo r l 0 5 = r 5 from rfl]; simp [go_sem], by simp [go_sem], by simp [go_sem], by simp [go_sem], by simp [go_sem], by simp [go_sem], by simp [go_sem], by simp [go_sem], by simp [go_sem], by simp [go_sem], by simp [go_sem], by simp [go_sem], by simp [go_sem], by simp [go_sem], by simp [go_sem], by simp [go_sem], by simp [go_sem], by simp [go_sem], by simp [go_sem]⟩
  case round =>
    obtain ⟨j, hj, rfl, HP, hB, c0, c1, c2, c3, c4, c5, f3, f4, f5, m0, m1, m2, q0, q1, q2, q3, q4, q5, p0, p1, p2, p3, p4, p5⟩ := hrel
    obtain rfl | rfl | rfl | rfl : j = 0 ∨ j = 1 ∨ j = 2 ∨ j = 3 := by omega
    · rw [show litTo r l 0 0 = r 0 from rfl] at c0
      rw [show litTo r l 0 1 = r 1 from rfl] at c1
      rw [show litTo r l 0 2 = r 2 from rfl] at c2
      rw [show litTo r l 0 3 = r 3 from rfl] at c3
      rw [show litTo r l 0 4 = r 4 from rfl] at c4
      rw [show litTo r l 0 5 = r 5 from rfl] at c5
      cases a : inB 0 2 (l 0)
      · have N0 : litB r l 0 = false := by simp [litB, a]
        have N : Hid (litB r l 0 = false) := N0
        clear N0
        go_wp2_with (first | (go_at_call 61; refine (within_any _ _ _ _).mono ?_; rintro e w' ⟨rfl, rfl⟩))
        refine bodyPost_ret (v := .tuple #[A6 (opt (litTo r l 3) (litsB r l)), .bool (litsB r l)]) (by simp [results, Try.results39, go_sem, opt, lits_no (by omega) N.out, q0, q1, q2, q3, q4, q5]) rfl ⟨rfl, by (repeat first | (with_reducible assumption) | (with_reducible exact Below.refl _ _) | ((with_reducible refine bl_alloc _ ?_ ?_); focus (first | (simp; done) | (simp; omega) | omega)) | ((with_reducible refine bl_set _ ?_ ?_); focus (first | (simp; done) | (simp; omega) | omega)) | (with_reducible refine Below.drew ?_) | (with_reducible refine bl_drewN _ ?_))⟩
      · have al := inB_iff.1 a
        obtain ⟨al0, al1⟩ := al
        by_cases b : r 3 + l 0 ≤ 2
        · have b1 : decide (2 < r 3 + l 0) = false := decide_eq_false (by omega)
          by_cases c : r 0 = 0
          · have c9 : (r 0 == 0) = true := by simp [c]
            by_cases d : l 0 = 0
            · have d1 : (l 0 == 0) = true := by simp [d]
              have Y0 : litB r l 0 = true := by unfold litB; rw [a, decide_eq_true (show r (3 + 0) + l 0 ≤ 2 from b), decide_eq_false (show ¬ 0 < l 0 by omega)]; simp
              have Y : Hid (litB r l 0 = true) := Y0
              clear Y0 c d
              go_wp2_with (first | (go_at_call 61; refine (within_any _ _ _ _).mono ?_; rintro e w' ⟨rfl, rfl⟩))
              go_roundw
              case rel => exact ⟨0 + 1, by omega, by go_num, lits_more HP.out Y.out, by (repeat first | (with_reducible assumption) | (with_reducible exact Below.refl _ _) | ((with_reducible refine bl_alloc _ ?_ ?_); focus (first | (simp; done) | (simp; omega) | omega)) | ((with_reducible refine bl_set _ ?_ ?_); focus (first | (simp; done) | (simp; omega) | omega)) | (with_reducible refine Below.drew ?_) | (with_reducible refine bl_drewN _ ?_)), by rw [show litTo r l (0 + 1) 0 = r 0 from rfl]; simp [go_sem, c0], by rw [show litTo r l (0 + 1) 1 = r 1 from rfl]; simp [go_sem, c1], by rw [show litTo r l (0 + 1) 2 = r 2 from rfl]; simp [go_sem, c2], by rw [show litTo r l (0 + 1) 3 = r 3 + l 0 from rfl]; simp [go_sem, c3], by rw [show litTo r l (0 + 1) 4 = r 4 from rfl]; simp [go_sem, c4], by rw [show litTo r l (0 + 1) 5 = r 5 from rfl]; simp [go_sem, c5], by simp [go_sem, f3], by simp [go_sem, f4], by simp [go_sem, f5], by simp [go_sem, m0], by simp [go_sem, m1], by simp [go_sem, m2], by simp [go_sem, q0], by simp [go_sem, q1], by simp [go_sem, q2], by simp [go_sem, q3], by simp [go_sem, q4], by simp [go_sem, q5], by simp [go_sem, p0], by simp [go_sem, p1], by simp [go_sem, p2], by simp [go_sem, p3], by simp [go_sem, p4], by simp [go_sem, p5]⟩
              case measure => simp [intOf]
            · have d1 : (l 0 == 0) = false := by simp; omega
              have N0 : litB r l 0 = false := by simp [litB, a, c]; omega
              have N : Hid (litB r l 0 = false) := N0
              clear N0 c d
              go_wp2_with (first | (go_at_call 61; refine (within_any _ _ _ _).mono ?_; rintro e w' ⟨rfl, rfl⟩))
              refine bodyPost_ret (v := .tuple #[A6 (opt (litTo r l 3) (litsB r l)), .bool (litsB r l)]) (by simp [results, Try.results39, go_sem, opt, lits_no (by omega) N.out, q0, q1, q2, q3, q4, q5]) rfl ⟨rfl, by (repeat first | (with_reducible assumption) | (with_reducible exact Below.refl _ _) | ((with_reducible refine bl_alloc _ ?_ ?_); focus (first | (simp; done) | (simp; omega) | omega)) | ((with_reducible refine bl_set _ ?_ ?_); focus (first | (simp; done) | (simp; omega) | omega)) | (with_reducible refine Below.drew ?_) | (with_reducible refine bl_drewN _ ?_))⟩
          · have c9 : (r 0 == 0) = false := by simp [c]
            have Y0 : litB r l 0 = true := by simp [litB, a, c]; exact b
            have Y : Hid (litB r l 0 = true) := Y0
            clear Y0 c
            go_wp2_with (first | (go_at_call 61; refine (within_any _ _ _ _).mono ?_; rintro e w' ⟨rfl, rfl⟩))
            go_roundw
            case rel => exact ⟨0 + 1, by omega, by go_num, lits_more HP.out Y.out, by (repeat first | (with_reducible assumption) | (with_reducible exact Below.refl _ _) | ((with_reducible refine bl_alloc _ ?_ ?_); focus (first | (simp; done) | (simp; omega) | omega)) | ((with_reducible refine bl_set _ ?_ ?_); focus (first | (simp; done) | (simp; omega) | omega)) | (with_reducible refine Below.drew ?_) | (with_reducible refine bl_drewN _ ?_)), by rw [show litTo r l (0 + 1) 0 = r 0 from rfl]; simp [go_sem, c0], by rw [show litTo r l (0 + 1) 1 = r 1 from rfl]; simp [go_sem, c1], by rw [show litTo r l (0 + 1) 2 = r 2 from rfl]; simp [go_sem, c2], by rw [show litTo r l (0 + 1) 3 = r 3 + l 0 from rfl]; simp [go_sem, c3], by rw [show litTo r l (0 + 1) 4 = r 4 from rfl]; simp [go_sem, c4], by rw [show litTo r l (0 + 1) 5 = r 5 from rfl]; simp [go_sem, c5], by simp [go_sem, f3], by simp [go_sem, f4], by simp [go_sem, f5], by simp [go_sem, m0], by simp [go_sem, m1], by simp [go_sem, m2], by simp [go_sem, q0], by simp [go_sem, q1], by simp [go_sem, q2], by simp [go_sem, q3], by simp [go_sem, q4], by simp [go_sem, q5], by simp [go_sem, p0], by simp [go_sem, p1], by simp [go_sem, p2], by simp [go_sem, p3], by simp [go_sem, p4], by simp [go_sem, p5]⟩
            case measure => simp [intOf]
        · have b1 : decide (2 < r 3 + l 0) = true := decide_eq_true (by omega)
          have N0 : litB r l 0 = false := by simp [litB, a]; intro h; exact absurd h b
          have N : Hid (litB r l 0 = false) := N0
          clear N0
          cases c : (r 0 == 0) <;> cases d : (l 0 == 0)
          all_goals
            go_wp2_with (first | (go_at_call 61; refine (within_any _ _ _ _).mono ?_; rintro e w' ⟨rfl, rfl⟩))
            refine bodyPost_ret (v := .tuple #[A6 (opt (litTo r l 3) (litsB r l)), .bool (litsB r l)]) (by simp [results, Try.results39, go_sem, opt, lits_no (by omega) N.out, q0, q1, q2, q3, q4, q5]) rfl ⟨rfl, by (repeat first | (with_reducible assumption) | (with_reducible exact Below.refl _ _) | ((with_reducible refine bl_alloc _ ?_ ?_); focus (first | (simp; done) | (simp; omega) | omega)) | ((with_reducible refine bl_set _ ?_ ?_); focus (first | (simp; done) | (simp; omega) | omega)) | (with_reducible refine Below.drew ?_) | (with_reducible refine bl_drewN _ ?_))⟩
    · rw [show litTo r l 1 0 = r 0 from rfl] at c0
      rw [show litTo r l 1 1 = r 1 from rfl] at c1
      rw [show litTo r l 1 2 = r 2 from rfl] at c2
      rw [show litTo r l 1 3 = r 3 + l 0 from rfl] at c3
      rw [show litTo r l 1 4 = r 4 from rfl] at c4
      rw [show litTo r l 1 5 = r 5 from rfl] at c5
      cases a : inB 0 2 (l 1)
      · have N0 : litB r l 1 = false := by simp [litB, a]
        have N : Hid (litB r l 1 = false) := N0
        clear N0
        go_wp2_with (first | (go_at_call 61; refine (within_any _ _ _ _).mono ?_; rintro e w' ⟨rfl, rfl⟩))
        refine bodyPost_ret (v := .tuple #[A6 (opt (litTo r l 3) (litsB r l)), .bool (litsB r l)]) (by simp [results, Try.results39, go_sem, opt, lits_no (by omega) N.out, q0, q1, q2, q3, q4, q5]) rfl ⟨rfl, by (repeat first | (with_reducible assumption) | (with_reducible exact Below.refl _ _) | ((with_reducible refine bl_alloc _ ?_ ?_); focus (first | (simp; done) | (simp; omega) | omega)) | ((with_reducible refine bl_set _ ?_ ?_); focus (first | (simp; done) | (simp; omega) | omega)) | (with_reducible refine Below.drew ?_) | (with_reducible refine bl_drewN _ ?_))⟩
      · have al := inB_iff.1 a
        obtain ⟨al0, al1⟩ := al
        by_cases b : r 4 + l 1 ≤ 2
        · have b1 : decide (2 < r 4 + l 1) = false := decide_eq_false (by omega)
          by_cases c : r 1 = 0
          · have c9 : (r 1 == 0) = true := by simp [c]
            by_cases d : l 1 = 0
            · have d1 : (l 1 == 0) = true := by simp [d]
              have Y0 : litB r l 1 = true := by unfold litB; rw [a, decide_eq_true (show r (3 + 1) + l 1 ≤ 2 from b), decide_eq_false (show ¬ 0 < l 1 by omega)]; simp
              have Y : Hid (litB r l 1 = true) := Y0
              clear Y0 c d
              go_wp2_with (first | (go_at_call 61; refine (within_any _ _ _ _).mono ?_; rintro e w' ⟨rfl, rfl⟩))
              go_roundw
              case rel => exact ⟨1 + 1, by omega, by go_num, lits_more HP.out Y.out, by (repeat first | (with_reducible assumption) | (with_reducible exact Below.refl _ _) | ((with_reducible refine bl_alloc _ ?_ ?_); focus (first | (simp; done) | (simp; omega) | omega)) | ((with_reducible refine bl_set _ ?_ ?_); focus (first | (simp; done) | (simp; omega) | omega)) | (with_reducible refine Below.drew ?_) | (with_reducible refine bl_drewN _ ?_)), by rw [show litTo r l (1 + 1) 0 = r 0 from rfl]; simp [go_sem, c0], by rw [show litTo r l (1 + 1) 1 = r 1 from rfl]; simp [go_sem, c1], by rw [show litTo r l (1 + 1) 2 = r 2 from rfl]; simp [go_sem, c2], by rw [show litTo r l (1 + 1) 3 = r 3 + l 0 from rfl]; simp [go_sem, c3], by rw [show litTo r l (1 + 1) 4 = r 4 + l 1 from rfl]; simp [go_sem, c4], by rw [show litTo r l (1 + 1) 5 = r 5 from rfl]; simp [go_sem, c5], by simp [go_sem, f3], by simp [go_sem, f4], by simp [go_sem, f5], by simp [go_sem, m0], by simp [go_sem, m1], by simp [go_sem, m2], by simp [go_sem, q0], by simp [go_sem, q1], by simp [go_sem, q2], by simp [go_sem, q3], by simp [go_sem, q4], by simp [go_sem, q5], by simp [go_sem, p0], by simp [go_sem, p1], by simp [go_sem, p2], by simp [go_sem, p3], by simp [go_sem, p4], by simp [go_sem, p5]⟩
              case measure => simp [intOf]
            · have d1 : (l 1 == 0) = false := by simp; omega
              have N0 : litB r l 1 = false := by simp [litB, a, c]; omega
              have N : Hid (litB r l 1 = false) := N0
              clear N0 c d
              go_wp2_with (first | (go_at_call 61; refine (within_any _ _ _ _).mono ?_; rintro e w' ⟨rfl, rfl⟩))
              refine bodyPost_ret (v := .tuple #[A6 (opt (litTo r l 3) (litsB r l)), .bool (litsB r l)]) (by simp [results, Try.results39, go_sem, opt, lits_no (by omega) N.out, q0, q1, q2, q3, q4, q5]) rfl ⟨rfl, by (repeat first | (with_reducible assumption) | (with_reducible exact Below.refl _ _) | ((with_reducible refine bl_alloc _ ?_ ?_); focus (first | (simp; done) | (simp; omega) | omega)) | ((with_reducible refine bl_set _ ?_ ?_); focus (first | (simp; done) | (simp; omega) | omega)) | (with_reducible refine Below.drew ?_) | (with_reducible refine bl_drewN _ ?_))⟩
          · have c9 : (r 1 == 0) = false := by simp [c]
            have Y0 : litB r l 1 = true := by simp [litB, a, c]; exact b
            have Y : Hid (litB r l 1 = true) := Y0
            clear Y0 c
            go_wp2_with (first | (go_at_call 61; refine (within_any _ _ _ _).mono ?_; rintro e w' ⟨rfl, rfl⟩))
            go_roundw
            case rel => exact ⟨1 + 1, by omega, by go_num, lits_more HP.out Y.out, by (repeat first | (with_reducible assumption) | (with_reducible exact Below.refl _ _) | ((with_reducible refine bl_alloc _ ?_ ?_); focus (first | (simp; done) | (simp; omega) | omega)) | ((with_reducible refine bl_set _ ?_ ?_); focus (first | (simp; done) | (simp; omega) | omega)) | (with_reducible refine Below.drew ?_) | (with_reducible refine bl_drewN _ ?_)), by rw [show litTo r l (1 + 1) 0 = r 0 from rfl]; simp [go_sem, c0], by rw [show litTo r l (1 + 1) 1 = r 1 from rfl]; simp [go_sem, c1], by rw [show litTo r l (1 + 1) 2 = r 2 from rfl]; simp [go_sem, c2], by rw [show litTo r l (1 + 1) 3 = r 3 + l 0 from rfl]; simp [go_sem, c3], by rw [show litTo r l (1 + 1) 4 = r 4 + l 1 from rfl]; simp [go_sem, c4], by rw [show litTo r l (1 + 1) 5 = r 5 from rfl]; simp [go_sem, c5], by simp [go_sem, f3], by simp [go_sem, f4], by simp [go_sem, f5], by simp [go_sem, m0], by simp [go_sem, m1], by simp [go_sem, m2], by simp [go_sem, q0], by simp [go_sem, q1], by simp [go_sem, q2], by simp [go_sem, q3], by simp [go_sem, q4], by simp [go_sem, q5], by simp [go_sem, p0], by simp [go_sem, p1], by simp [go_sem, p2], by simp [go_sem, p3], by simp [go_sem, p4], by simp [go_sem, p5]⟩
            case measure => simp [intOf]
        · have b1 : decide (2 < r 4 + l 1) = true := decide_eq_true (by omega)
          have N0 : litB r l 1 = false := by simp [litB, a]; intro h; exact absurd h b
          have N : Hid (litB r l 1 = false) := N0
          clear N0
          cases c : (r 1 == 0) <;> cases d : (l 1 == 0)
          all_goals
            go_wp2_with (first | (go_at_call 61; refine (within_any _ _ _ _).mono ?_; rintro e w' ⟨rfl, rfl⟩))
            refine bodyPost_ret (v := .tuple #[A6 (opt (litTo r l 3) (litsB r l)), .bool (litsB r l)]) (by simp [results, Try.results39, go_sem, opt, lits_no (by omega) N.out, q0, q1, q2, q3, q4, q5]) rfl ⟨rfl, by (repeat first | (with_reducible assumption) | (with_reducible exact Below.refl _ _) | ((with_reducible refine bl_alloc _ ?_ ?_); focus (first | (simp; done) | (simp; omega) | omega)) | ((with_reducible refine bl_set _ ?_ ?_); focus (first | (simp; done) | (simp; omega) | omega)) | (with_reducible refine Below.drew ?_) | (with_reducible refine bl_drewN _ ?_))⟩
    · rw [show litTo r l 2 0 = r 0 from rfl] at c0
      rw [show litTo r l 2 1 = r 1 from rfl] at c1
      rw [show litTo r l 2 2 = r 2 from rfl] at c2
      rw [show litTo r l 2 3 = r 3 + l 0 from rfl] at c3
      rw [show litTo r l 2 4 = r 4 + l 1 from rfl] at c4
      rw [show litTo r l 2 5 = r 5 from rfl] at c5
      cases a : inB 0 2 (l 2)
      · have N0 : litB r l 2 = false := by simp [litB, a]
        have N : Hid (litB r l 2 = false) := N0
        clear N0
        go_wp2_with (first | (go_at_call 61; refine (within_any _ _ _ _).mono ?_; rintro e w' ⟨rfl, rfl⟩))
        refine bodyPost_ret (v := .tuple #[A6 (opt (litTo r l 3) (litsB r l)), .bool (litsB r l)]) (by simp [results, Try.results39, go_sem, opt, lits_no (by omega) N.out, q0, q1, q2, q3, q4, q5]) rfl ⟨rfl, by (repeat first | (with_reducible assumption) | (with_reducible exact Below.refl _ _) | ((with_reducible refine bl_alloc _ ?_ ?_); focus (first | (simp; done) | (simp; omega) | omega)) | ((with_reducible refine bl_set _ ?_ ?_); focus (first | (simp; done) | (simp; omega) | omega)) | (with_reducible refine Below.drew ?_) | (with_reducible refine bl_drewN _ ?_))⟩
      · have al := inB_iff.1 a
        obtain ⟨al0, al1⟩ := al
        by_cases b : r 5 + l 2 ≤ 2
        · have b1 : decide (2 < r 5 + l 2) = false := decide_eq_false (by omega)
          by_cases c : r 2 = 0
          · have c9 : (r 2 == 0) = true := by simp [c]
            by_cases d : l 2 = 0
            · have d1 : (l 2 == 0) = true := by simp [d]
              have Y0 : litB r l 2 = true := by unfold litB; rw [a, decide_eq_true (show r (3 + 2) + l 2 ≤ 2 from b), decide_eq_false (show ¬ 0 < l 2 by omega)]; simp
              have Y : Hid (litB r l 2 = true) := Y0
              clear Y0 c d
              go_wp2_with (first | (go_at_call 61; refine (within_any _ _ _ _).mono ?_; rintro e w' ⟨rfl, rfl⟩))
              go_roundw
              case rel => exact ⟨2 + 1, by omega, by go_num, lits_more HP.out Y.out, by (repeat first | (with_reducible assumption) | (with_reducible exact Below.refl _ _) | ((with_reducible refine bl_alloc _ ?_ ?_); focus (first | (simp; done) | (simp; omega) | omega)) | ((with_reducible refine bl_set _ ?_ ?_); focus (first | (simp; done) | (simp; omega) | omega)) | (with_reducible refine Below.drew ?_) | (with_reducible refine bl_drewN _ ?_)), by rw [show litTo r l (2 + 1) 0 = r 0 from rfl]; simp [go_sem, c0], by rw [show litTo r l (2 + 1) 1 = r 1 from rfl]; simp [go_sem, c1], by rw [show litTo r l (2 + 1) 2 = r 2 from rfl]; simp [go_sem, c2], by rw [show litTo r l (2 + 1) 3 = r 3 + l 0 from rfl]; simp [go_sem, c3], by rw [show litTo r l (2 + 1) 4 = r 4 + l 1 from rfl]; simp [go_sem, c4], by rw [show litTo r l (2 + 1) 5 = r 5 + l 2 from rfl]; simp [go_sem, c5], by simp [go_sem, f3], by simp [go_sem, f4], by simp [go_sem, f5], by simp [go_sem, m0], by simp [go_sem, m1], by simp [go_sem, m2], by simp [go_sem, q0], by simp [go_sem, q1], by simp [go_sem, q2], by simp [go_sem, q3], by simp [go_sem, q4], by simp [go_sem, q5], by simp [go_sem, p0], by simp [go_sem, p1], by simp [go_sem, p2], by simp [go_sem, p3], by simp [go_sem, p4], by simp [go_sem, p5]⟩
              case measure => simp [intOf]
            · have d1 : (l 2 == 0) = false := by simp; omega
              have N0 : litB r l 2 = false := by simp [litB, a, c]; omega
              have N : Hid (litB r l 2 = false) := N0
              clear N0 c d
              go_wp2_with (first | (go_at_call 61; refine (within_any _ _ _ _).mono ?_; rintro e w' ⟨rfl, rfl⟩))
              refine bodyPost_ret (v := .tuple #[A6 (opt (litTo r l 3) (litsB r l)), .bool (litsB r l)]) (by simp [results, Try.results39, go_sem, opt, lits_no (by omega) N.out, q0, q1, q2, q3, q4, q5]) rfl ⟨rfl, by (repeat first | (with_reducible assumption) | (with_reducible exact Below.refl _ _) | ((with_reducible refine bl_alloc _ ?_ ?_); focus (first | (simp; done) | (simp; omega) | omega)) | ((with_reducible refine bl_set _ ?_ ?_); focus (first | (simp; done) | (simp; omega) | omega)) | (with_reducible refine Below.drew ?_) | (with_reducible refine bl_drewN _ ?_))⟩
          · have c9 : (r 2 == 0) = false := by simp [c]
            have Y0 : litB r l 2 = true := by simp [litB, a, c]; exact b
            have Y : Hid (litB r l 2 = true) := Y0
            clear Y0 c
            go_wp2_with (first | (go_at_call 61; refine (within_any _ _ _ _).mono ?_; rintro e w' ⟨rfl, rfl⟩))
            go_roundw
            case rel => exact ⟨2 + 1, by omega, by go_num, lits_more HP.out Y.out, by (repeat first | (with_reducible assumption) | (with_reducible exact Below.refl _ _) | ((with_reducible refine bl_alloc _ ?_ ?_); focus (first | (simp; done) | (simp; omega) | omega)) | ((with_reducible refine bl_set _ ?_ ?_); focus (first | (simp; done) | (simp; omega) | omega)) | (with_reducible refine Below.drew ?_) | (with_reducible refine bl_drewN _ ?_)), by rw [show litTo r l (2 + 1) 0 = r 0 from rfl]; simp [go_sem, c0], by rw [show litTo r l (2 + 1) 1 = r 1 from rfl]; simp [go_sem, c1], by rw [show litTo r l (2 + 1) 2 = r 2 from rfl]; simp [go_sem, c2], by rw [show litTo r l (2 + 1) 3 = r 3 + l 0 from rfl]; simp [go_sem, c3], by rw [show litTo r l (2 + 1) 4 = r 4 + l 1 from rfl]; simp [go_sem, c4], by rw [show litTo r l (2 + 1) 5 = r 5 + l 2 from rfl]; simp [go_sem, c5], by simp [go_sem, f3], by simp [go_sem, f4], by simp [go_sem, f5], by simp [go_sem, m0], by simp [go_sem, m1], by simp [go_sem, m2], by simp [go_sem, q0], by simp [go_sem, q1], by simp [go_sem, q2], by simp [go_sem, q3], by simp [go_sem, q4], by simp [go_sem, q5], by simp [go_sem, p0], by simp [go_sem, p1], by simp [go_sem, p2], by simp [go_sem, p3], by simp [go_sem, p4], by simp [go_sem, p5]⟩
            case measure => simp [intOf]
        · have b1 : decide (2 < r 5 + l 2) = true := decide_eq_true (by omega)
          have N0 : litB r l 2 = false := by simp [litB, a]; intro h; exact absurd h b
          have N : Hid (litB r l 2 = false) := N0
          clear N0
          cases c : (r 2 == 0) <;> cases d : (l 2 == 0)
          all_goals
            go_wp2_with (first | (go_at_call 61; refine (within_any _ _ _ _).mono ?_; rintro e w' ⟨rfl, rfl⟩))
            refine bodyPost_ret (v := .tuple #[A6 (opt (litTo r l 3) (litsB r l)), .bool (litsB r l)]) (by simp [results, Try.results39, go_sem, opt, lits_no (by omega) N.out, q0, q1, q2, q3, q4, q5]) rfl ⟨rfl, by (repeat first | (with_reducible assumption) | (with_reducible exact Below.refl _ _) | ((with_reducible refine bl_alloc _ ?_ ?_); focus (first | (simp; done) | (simp; omega) | omega)) | ((with_reducible refine bl_set _ ?_ ?_); focus (first | (simp; done) | (simp; omega) | omega)) | (with_reducible refine Below.drew ?_) | (with_reducible refine bl_drewN _ ?_))⟩
    · rw [show litTo r l 3 0 = r 0 from rfl] at c0
      rw [show litTo r l 3 1 = r 1 from rfl] at c1
      rw [show litTo r l 3 2 = r 2 from rfl] at c2
      rw [show litTo r l 3 3 = r 3 + l 0 from rfl] at c3
      rw [show litTo r l 3 4 = r 4 + l 1 from rfl] at c4
      rw [show litTo r l 3 5 = r 5 + l 2 from rfl] at c5
      have V : litsB r l = true := lits_yes HP.out
      go_wp2_with fail
      refine bodyPost_ret (v := .tuple #[A6 (opt (litTo r l 3) (litsB r l)), .bool (litsB r l)]) (by simp [results, Try.results39, go_sem, opt, litTo, *]) rfl ⟨rfl, by (repeat first | (with_reducible assumption) | (with_reducible exact Below.refl _ _) | ((with_reducible refine bl_alloc _ ?_ ?_); focus (first | (simp; done) | (simp; omega) | omega)) | ((with_reducible refine bl_set _ ?_ ?_); focus (first | (simp; done) | (simp; omega) | omega)) | (with_reducible refine Below.drew ?_) | (with_reducible refine bl_drewN _ ?_))⟩

set_option maxHeartbeats 3200000 in
theorem l5Light_any (r l : Nat → Int) (hr : Rope r) (w : World) : Calls Try.prog 58 #[A6 r, A3 l] w fun e w' => e = .returned (.tuple #[A6 (opt (litTo r l 3) (litsB r l)), .bool (litsB r l)]) ∧ Below w.heap.size w w' := by
  have lo0 := hr.lo 0 (by omega)
  have en0 : 0 ≤ r 3 ∧ r 3 ≤ 2 := hr.en 0 (by omega)
  have lo1 := hr.lo 1 (by omega)
  have en1 : 0 ≤ r 4 ∧ r 4 ≤ 2 := hr.en 1 (by omega)
  have lo2 := hr.lo 2 (by omega)
  have en2 : 0 ≤ r 5 ∧ r 5 ≤ 2 := hr.en 2 (by omega)
  obtain ⟨lo00, lo01⟩ := lo0
  obtain ⟨lo10, lo11⟩ := lo1
  obtain ⟨lo20, lo21⟩ := lo2
  obtain ⟨en00, en01⟩ := en0
  obtain ⟨en10, en11⟩ := en1
  obtain ⟨en20, en21⟩ := en2
  have i0 : ∀ w : World, (Instr.index 36 (.agg #[.int .i64 (r 0), .int .i64 (r 1), .int .i64 (r 2)]) (.int .i64 0)).run Try.prog w = .ok (.int .i64 (r 0)) w := fun _ => by kernel_rfl
  have i1 : ∀ w : World, (Instr.index 36 (.agg #[.int .i64 (r 0), .int .i64 (r 1), .int .i64 (r 2)]) (.int .i64 1)).run Try.prog w = .ok (.int .i64 (r 1)) w := fun _ => by kernel_rfl
  have i2 : ∀ w : World, (Instr.index 36 (.agg #[.int .i64 (r 0), .int .i64 (r 1), .int .i64 (r 2)]) (.int .i64 2)).run Try.prog w = .ok (.int .i64 (r 2)) w := fun _ => by kernel_rfl
  have il0 : ∀ w : World, (Instr.index 36 (A3 l) (.int .i64 0)).run Try.prog w = .ok (.int .i64 (l 0)) w := fun _ => by kernel_rfl
  have il1 : ∀ w : World, (Instr.index 36 (A3 l) (.int .i64 1)).run Try.prog w = .ok (.int .i64 (l 1)) w := fun _ => by kernel_rfl
  have il2 : ∀ w : World, (Instr.index 36 (A3 l) (.int .i64 2)).run Try.prog w = .ok (.int .i64 (l 2)) w := fun _ => by kernel_rfl
  clear hr
  go_enter Try.func58, Try.ntmps58
  go_wp2_with fail
  go_loopw [6] (fun i wr => ∃ j : Nat, j ≤ 3 ∧ i = .int .i64 j ∧ Hid (∀ i, i < j → litB r l i = true) ∧ Below w.heap.size w wr ∧ wr.cell? ⟨w.heap.size, 0, none⟩ = some (.int .i64 (litTo r l j 0)) ∧ wr.cell? ⟨w.heap.size, 1, none⟩ = some (.int .i64 (litTo r l j 1)) ∧ wr.cell? ⟨w.heap.size, 2, none⟩ = some (.int .i64 (litTo r l j 2)) ∧ wr.cell? ⟨w.heap.size, 3, none⟩ = some (.int .i64 (litTo r l j 3)) ∧ wr.cell? ⟨w.heap.size, 4, none⟩ = some (.int .i64 (litTo r l j 4)) ∧ wr.cell? ⟨w.heap.size, 5, none⟩ = some (.int .i64 (litTo r l j 5)) ∧ wr.frozen? ⟨w.heap.size, 3, none⟩ = false ∧ wr.frozen? ⟨w.heap.size, 4, none⟩ = false ∧ wr.frozen? ⟨w.heap.size, 5, none⟩ = false ∧ wr.cell? ⟨w.heap.size + 1, 0, none⟩ = some (.int .i64 (l 0)) ∧ wr.cell? ⟨w.heap.size + 1, 1, none⟩ = some (.int .i64 (l 1)) ∧ wr.cell? ⟨w.heap.size + 1, 2, none⟩ = some (.int .i64 (l 2)) ∧ wr.cell? ⟨w.heap.size + 1 + 1, 0, none⟩ = some (.int .i64 0) ∧ wr.cell? ⟨w.heap.size + 1 + 1, 1, none⟩ = some (.int .i64 0) ∧ wr.cell? ⟨w.heap.size + 1 + 1, 2, none⟩ = some (.int .i64 0) ∧ wr.cell? ⟨w.heap.size + 1 + 1, 3, none⟩ = some (.int .i64 0) ∧ wr.cell? ⟨w.heap.size + 1 + 1, 4, none⟩ = some (.int .i64 0) ∧ wr.cell? ⟨w.heap.size + 1 + 1, 5, none⟩ = some (.int .i64 0) ∧ wr.frozen? ⟨w.heap.size + 1 + 1, 0, none⟩ = false ∧ wr.frozen? ⟨w.heap.size + 1 + 1, 1, none⟩ = false ∧ wr.frozen? ⟨w.heap.size + 1 + 1, 2, none⟩ = false ∧ wr.frozen? ⟨w.heap.size + 1 + 1, 3, none⟩ = false ∧ wr.frozen? ⟨w.heap.size + 1 + 1, 4, none⟩ = false ∧ wr.frozen? ⟨w.heap.size + 1 + 1, 5, none⟩ = false) (fun i _ => 3 - (intOf i).toNat)
  case atStart => exact ⟨0, by omega, rfl, (fun i hi => absurd hi (Nat.not_lt_zero i) : ∀ i, i < 0 → litB r l i = true), by (repeat first | (with_reducible assumption) | (with_reducible exact Below.refl _ _) | ((with_reducible refine bl_alloc _ ?_ ?_); focus (first | (simp; done) | (simp; omega) | omega)) | ((with_reducible refine bl_set _ ?_ ?_); focus (first | (simp; done) | (simp; omega) | omega)) | (with_reducible refine Below.drew ?_) | (with_reducible refine bl_drewN _ ?_)), by rw [show litTo r l 0 0 = r 0 from rfl]; simp [go_sem], by rw [show litTo r l 0 1 = r 1 from rfl]; simp [go_sem], by rw [show litTo r l 0 2 = r 2 from rfl]; simp [go_sem], by rw [show litTo r l 0 3 = r 3 from rfl]; simp [go_sem], by rw [show litTo r l 0 4 = r 4 from rfl]; simp [go_sem], by rw [show litTo r l 0 5 = r 5 from rfl]; simp [go_sem], by simp [go_sem], by simp [go_sem], by simp [go_sem], by simp [go_sem], by simp [go_sem], by simp [go_sem], by simp [go_sem], by simp [go_sem], by simp [go_sem], by simp [go_sem], by simp [go_sem], by simp [go_sem], by simp [go_sem], by simp [go_sem], by simp [go_sem], by simp [go_sem], by simp [go_sem], by simp [go_sem]⟩
  case round =>
    obtain ⟨j, hj, rfl, HP, hB, c0, c1, c2, c3, c4, c5, f3, f4, f5, m0, m1, m2, q0, q1, q2, q3, q4, q5, p0, p1, p2, p3, p4, p5⟩ := hrel
    obtain rfl | rfl | rfl | rfl : j = 0 ∨ j = 1 ∨ j = 2 ∨ j = 3 := by omega
    · rw [show litTo r l 0 0 = r 0 from rfl] at c0
      rw [show litTo r l 0 1 = r 1 from rfl] at c1
      rw [show litTo r l 0 2 = r 2 from rfl] at c2
      rw [show litTo r l 0 3 = r 3 from rfl] at c3
      rw [show litTo r l 0 4 = r 4 from rfl] at c4
      rw [show litTo r l 0 5 = r 5 from rfl] at c5
      cases a : inB 0 2 (l 0)
      · have N0 : litB r l 0 = false := by simp [litB, a]
        have N : Hid (litB r l 0 = false) := N0
        clear N0
        go_wp2_with (first | (go_quiet ((first | (go_at_call 50; first | exact quiet_left (l1In_any _ _ _ _) | exact quiet_add_left (l1In_any _ _ _ _))))) | (go_at_call 50; refine (l1In_any _ _ _ _).mono ?_; rintro e w' ⟨rfl, rfl⟩) | (go_region))
        refine bodyPost_ret (v := .tuple #[A6 (opt (litTo r l 3) (litsB r l)), .bool (litsB r l)]) (by simp [results, Try.results58, go_sem, opt, lits_no (by omega) N.out, q0, q1, q2, q3, q4, q5]) rfl ⟨rfl, by (repeat first | (with_reducible assumption) | (with_reducible exact Below.refl _ _) | ((with_reducible refine bl_alloc _ ?_ ?_); focus (first | (simp; done) | (simp; omega) | omega)) | ((with_reducible refine bl_set _ ?_ ?_); focus (first | (simp; done) | (simp; omega) | omega)) | (with_reducible refine Below.drew ?_) | (with_reducible refine bl_drewN _ ?_))⟩
      · have al := inB_iff.1 a
        obtain ⟨al0, al1⟩ := al
        by_cases b : r 3 + l 0 ≤ 2
        · have b1 : decide (2 < r 3 + l 0) = false := decide_eq_false (by omega)
          by_cases c : r 0 = 0
          · have c9 : (r 0 == 0) = true := by simp [c]
            by_cases d : l 0 = 0
            · have d1 : decide (0 < l 0) = false := by simp [d]
              have Y0 : litB r l 0 = true := by unfold litB; rw [a, decide_eq_true (show r (3 + 0) + l 0 ≤ 2 from b), decide_eq_false (show ¬ 0 < l 0 by omega)]; simp
              have Y : Hid (litB r l 0 = true) := Y0
              clear Y0 c d
              go_wp2_with (first | (go_quiet ((first | (go_at_call 50; first | exact quiet_left (l1In_any _ _ _ _) | exact quiet_add_left (l1In_any _ _ _ _))))) | (go_at_call 50; refine (l1In_any _ _ _ _).mono ?_; rintro e w' ⟨rfl, rfl⟩) | (go_region))
              go_roundw
              case rel => exact ⟨0 + 1, by omega, by go_num, lits_more HP.out Y.out, by (repeat first | (with_reducible assumption) | (with_reducible exact Below.refl _ _) | ((with_reducible refine bl_alloc _ ?_ ?_); focus (first | (simp; done) | (simp; omega) | omega)) | ((with_reducible refine bl_set _ ?_ ?_); focus (first | (simp; done) | (simp; omega) | omega)) | (with_reducible refine Below.drew ?_) | (with_reducible refine bl_drewN _ ?_)), by rw [show litTo r l (0 + 1) 0 = r 0 from rfl]; simp [go_sem, c0], by rw [show litTo r l (0 + 1) 1 = r 1 from rfl]; simp [go_sem, c1], by rw [show litTo r l (0 + 1) 2 = r 2 from rfl]; simp [go_sem, c2], by rw [show litTo r l (0 + 1) 3 = r 3 + l 0 from rfl]; simp [go_sem, c3], by rw [show litTo r l (0 + 1) 4 = r 4 from rfl]; simp [go_sem, c4], by rw [show litTo r l (0 + 1) 5 = r 5 from rfl]; simp [go_sem, c5], by simp [go_sem, f3], by simp [go_sem, f4], by simp [go_sem, f5], by simp [go_sem, m0], by simp [go_sem, m1], by simp [go_sem, m2], by simp [go_sem, q0], by simp [go_sem, q1], by simp [go_sem, q2], by simp [go_sem, q3], by simp [go_sem, q4], by simp [go_sem, q5], by simp [go_sem, p0], by simp [go_sem, p1], by simp [go_sem, p2], by simp [go_sem, p3], by simp [go_sem, p4], by simp [go_sem, p5]⟩
              case measure => simp [intOf]
            · have d1 : decide (0 < l 0) = true := by simp; omega
              have N0 : litB r l 0 = false := by simp [litB, a, c]; omega
              have N : Hid (litB r l 0 = false) := N0
              clear N0 c d
              go_wp2_with (first | (go_quiet ((first | (go_at_call 50; first | exact quiet_left (l1In_any _ _ _ _) | exact quiet_add_left (l1In_any _ _ _ _))))) | (go_at_call 50; refine (l1In_any _ _ _ _).mono ?_; rintro e w' ⟨rfl, rfl⟩) | (go_region))
              refine bodyPost_ret (v := .tuple #[A6 (opt (litTo r l 3) (litsB r l)), .bool (litsB r l)]) (by simp [results, Try.results58, go_sem, opt, lits_no (by omega) N.out, q0, q1, q2, q3, q4, q5]) rfl ⟨rfl, by (repeat first | (with_reducible assumption) | (with_reducible exact Below.refl _ _) | ((with_reducible refine bl_alloc _ ?_ ?_); focus (first | (simp; done) | (simp; omega) | omega)) | ((with_reducible refine bl_set _ ?_ ?_); focus (first | (simp; done) | (simp; omega) | omega)) | (with_reducible refine Below.drew ?_) | (with_reducible refine bl_drewN _ ?_))⟩
          · have c9 : (r 0 == 0) = false := by simp [c]
            have Y0 : litB r l 0 = true := by simp [litB, a, c]; exact b
            have Y : Hid (litB r l 0 = true) := Y0
            clear Y0 c
            go_wp2_with (first | (go_quiet ((first | (go_at_call 50; first | exact quiet_left (l1In_any _ _ _ _) | exact quiet_add_left (l1In_any _ _ _ _))))) | (go_at_call 50; refine (l1In_any _ _ _ _).mono ?_; rintro e w' ⟨rfl, rfl⟩) | (go_region))
            go_roundw
            case rel => exact ⟨0 + 1, by omega, by go_num, lits_more HP.out Y.out, by (repeat first | (with_reducible assumption) | (with_reducible exact Below.refl _ _) | ((with_reducible refine bl_alloc _ ?_ ?_); focus (first | (simp; done) | (simp; omega) | omega)) | ((with_reducible refine bl_set _ ?_ ?_); focus (first | (simp; done) | (simp; omega) | omega)) | (with_reducible refine Below.drew ?_) | (with_reducible refine bl_drewN _ ?_)), by rw [show litTo r l (0 + 1) 0 = r 0 from rfl]; simp [go_sem, c0], by rw [show litTo r l (0 + 1) 1 = r 1 from rfl]; simp [go_sem, c1], by rw [show litTo r l (0 + 1) 2 = r 2 from rfl]; simp [go_sem, c2], by rw [show litTo r l (0 + 1) 3 = r 3 + l 0 from rfl]; simp [go_sem, c3], by rw [show litTo r l (0 + 1) 4 = r 4 from rfl]; simp [go_sem, c4], by rw [show litTo r l (0 + 1) 5 = r 5 from rfl]; simp [go_sem, c5], by simp [go_sem, f3], by simp [go_sem, f4], by simp [go_sem, f5], by simp [go_sem, m0], by simp [go_sem, m1], by simp [go_sem, m2], by simp [go_sem, q0], by simp [go_sem, q1], by simp [go_sem, q2], by simp [go_sem, q3], by simp [go_sem, q4], by simp [go_sem, q5], by simp [go_sem, p0], by simp [go_sem, p1], by simp [go_sem, p2], by simp [go_sem, p3], by simp [go_sem, p4], by simp [go_sem, p5]⟩
            case measure => simp [intOf]
        · have b1 : decide (2 < r 3 + l 0) = true := decide_eq_true (by omega)
          have N0 : litB r l 0 = false := by simp [litB, a]; intro h; exact absurd h b
          have N : Hid (litB r l 0 = false) := N0
          clear N0
          cases c : (r 0 == 0) <;> cases d : decide (0 < l 0)
          all_goals
            go_wp2_with (first | (go_quiet ((first | (go_at_call 50; first | exact quiet_left (l1In_any _ _ _ _) | exact quiet_add_left (l1In_any _ _ _ _))))) | (go_at_call 50; refine (l1In_any _ _ _ _).mono ?_; rintro e w' ⟨rfl, rfl⟩) | (go_region))
            refine bodyPost_ret (v := .tuple #[A6 (opt (litTo r l 3) (litsB r l)), .bool (litsB r l)]) (by simp [results, Try.results58, go_sem, opt, lits_no (by omega) N.out, q0, q1, q2, q3, q4, q5]) rfl ⟨rfl, by (repeat first | (with_reducible assumption) | (with_reducible exact Below.refl _ _) | ((with_reducible refine bl_alloc _ ?_ ?_); focus (first | (simp; done) | (simp; omega) | omega)) | ((with_reducible refine bl_set _ ?_ ?_); focus (first | (simp; done) | (simp; omega) | omega)) | (with_reducible refine Below.drew ?_) | (with_reducible refine bl_drewN _ ?_))⟩
    · rw [show litTo r l 1 0 = r 0 from rfl] at c0
      rw [show litTo r l 1 1 = r 1 from rfl] at c1
      rw [show litTo r l 1 2 = r 2 from rfl] at c2
      rw [show litTo r l 1 3 = r 3 + l 0 from rfl] at c3
      rw [show litTo r l 1 4 = r 4 from rfl] at c4
      rw [show litTo r l 1 5 = r 5 from rfl] at c5
      cases a : inB 0 2 (l 1)
      · have N0 : litB r l 1 = false := by simp [litB, a]
        have N : Hid (litB r l 1 = false) := N0
        clear N0
        go_wp2_with (first | (go_quiet ((first | (go_at_call 50; first | exact quiet_left (l1In_any _ _ _ _) | exact quiet_add_left (l1In_any _ _ _ _))))) | (go_at_call 50; refine (l1In_any _ _ _ _).mono ?_; rintro e w' ⟨rfl, rfl⟩) | (go_region))
        refine bodyPost_ret (v := .tuple #[A6 (opt (litTo r l 3) (litsB r l)), .bool (litsB r l)]) (by simp [results, Try.results58, go_sem, opt, lits_no (by omega) N.out, q0, q1, q2, q3, q4, q5]) rfl ⟨rfl, by (repeat first | (with_reducible assumption) | (with_reducible exact Below.refl _ _) | ((with_reducible refine bl_alloc _ ?_ ?_); focus (first | (simp; done) | (simp; omega) | omega)) | ((with_reducible refine bl_set _ ?_ ?_); focus (first | (simp; done) | (simp; omega) | omega)) | (with_reducible refine Below.drew ?_) | (with_reducible refine bl_drewN _ ?_))⟩
      · have al := inB_iff.1 a
        obtain ⟨al0, al1⟩ := al
        by_cases b : r 4 + l 1 ≤ 2
        · have b1 : decide (2 < r 4 + l 1) = false := decide_eq_false (by omega)
          by_cases c : r 1 = 0
          · have c9 : (r 1 == 0) = true := by simp [c]
            by_cases d : l 1 = 0
            · have d1 : decide (0 < l 1) = false := by simp [d]
              have Y0 : litB r l 1 = true := by unfold litB; rw [a, decide_eq_true (show r (3 + 1) + l 1 ≤ 2 from b), decide_eq_false (show ¬ 0 < l 1 by omega)]; simp
              have Y : Hid (litB r l 1 = true) := Y0
              clear Y0 c d
              go_wp2_with (first | (go_quiet ((first | (go_at_call 50; first | exact quiet_left (l1In_any _ _ _ _) | exact quiet_add_left (l1In_any _ _ _ _))))) | (go_at_call 50; refine (l1In_any _ _ _ _).mono ?_; rintro e w' ⟨rfl, rfl⟩) | (go_region))
              go_roundw
              case rel => exact ⟨1 + 1, by omega, by go_num, lits_more HP.out Y.out, by (repeat first | (with_reducible assumption) | (with_reducible exact Below.refl _ _) | ((with_reducible refine bl_alloc _ ?_ ?_); focus (first | (simp; done) | (simp; omega) | omega)) | ((with_reducible refine bl_set _ ?_ ?_); focus (first | (simp; done) | (simp; omega) | omega)) | (with_reducible refine Below.drew ?_) | (with_reducible refine bl_drewN _ ?_)), by rw [show litTo r l (1 + 1) 0 = r 0 from rfl]; simp [go_sem, c0], by rw [show litTo r l (1 + 1) 1 = r 1 from rfl]; simp [go_sem, c1], by rw [show litTo r l (1 + 1) 2 = r 2 from rfl]; simp [go_sem, c2], by rw [show litTo r l (1 + 1) 3 = r 3 + l 0 from rfl]; simp [go_sem, c3], by rw [show litTo r l (1 + 1) 4 = r 4 + l 1 from rfl]; simp [go_sem, c4], by rw [show litTo r l (1 + 1) 5 = r 5 from rfl]; simp [go_sem, c5], by simp [go_sem, f3], by simp [go_sem, f4], by simp [go_sem, f5], by simp [go_sem, m0], by simp [go_sem, m1], by simp [go_sem, m2], by simp [go_sem, q0], by simp [go_sem, q1], by simp [go_sem, q2], by simp [go_sem, q3], by simp [go_sem, q4], by simp [go_sem, q5], by simp [go_sem, p0], by simp [go_sem, p1], by simp [go_sem, p2], by simp [go_sem, p3], by simp [go_sem, p4], by simp [go_sem, p5]⟩
              case measure => simp [intOf]
            · have d1 : decide (0 < l 1) = true := by simp; omega
              have N0 : litB r l 1 = false := by simp [litB, a, c]; omega
              have N : Hid (litB r l 1 = false) := N0
              clear N0 c d
              go_wp2_with (first | (go_quiet ((first | (go_at_call 50; first | exact quiet_left (l1In_any _ _ _ _) | exact quiet_add_left (l1In_any _ _ _ _))))) | (go_at_call 50; refine (l1In_any _ _ _ _).mono ?_; rintro e w' ⟨rfl, rfl⟩) | (go_region))
              refine bodyPost_ret (v := .tuple #[A6 (opt (litTo r l 3) (litsB r l)), .bool (litsB r l)]) (by simp [results, Try.results58, go_sem, opt, lits_no (by omega) N.out, q0, q1, q2, q3, q4, q5]) rfl ⟨rfl, by (repeat first | (with_reducible assumption) | (with_reducible exact Below.refl _ _) | ((with_reducible refine bl_alloc _ ?_ ?_); focus (first | (simp; done) | (simp; omega) | omega)) | ((with_reducible refine bl_set _ ?_ ?_); focus (first | (simp; done) | (simp; omega) | omega)) | (with_reducible refine Below.drew ?_) | (with_reducible refine bl_drewN _ ?_))⟩
          · have c9 : (r 1 == 0) = false := by simp [c]
            have Y0 : litB r l 1 = true := by simp [litB, a, c]; exact b
            have Y : Hid (litB r l 1 = true) := Y0
            clear Y0 c
            go_wp2_with (first | (go_quiet ((first | (go_at_call 50; first | exact quiet_left (l1In_any _ _ _ _) | exact quiet_add_left (l1In_any _ _ _ _))))) | (go_at_call 50; refine (l1In_any _ _ _ _).mono ?_; rintro e w' ⟨rfl, rfl⟩) | (go_region))
            go_roundw
            case rel => exact ⟨1 + 1, by omega, by go_num, lits_more HP.out Y.out, by (repeat first | (with_reducible assumption) | (with_reducible exact Below.refl _ _) | ((with_reducible refine bl_alloc _ ?_ ?_); focus (first | (simp; done) | (simp; omega) | omega)) | ((with_reducible refine bl_set _ ?_ ?_); focus (first | (simp; done) | (simp; omega) | omega)) | (with_reducible refine Below.drew ?_) | (with_reducible refine bl_drewN _ ?_)), by rw [show litTo r l (1 + 1) 0 = r 0 from rfl]; simp [go_sem, c0], by rw [show litTo r l (1 + 1) 1 = r 1 from rfl]; simp [go_sem, c1], by rw [show litTo r l (1 + 1) 2 = r 2 from rfl]; simp [go_sem, c2], by rw [show litTo r l (1 + 1) 3 = r 3 + l 0 from rfl]; simp [go_sem, c3], by rw [show litTo r l (1 + 1) 4 = r 4 + l 1 from rfl]; simp [go_sem, c4], by rw [show litTo r l (1 + 1) 5 = r 5 from rfl]; simp [go_sem, c5], by simp [go_sem, f3], by simp [go_sem, f4], by simp [go_sem, f5], by simp [go_sem, m0], by simp [go_sem, m1], by simp [go_sem, m2], by simp [go_sem, q0], by simp [go_sem, q1], by simp [go_sem, q2], by simp [go_sem, q3], by simp [go_sem, q4], by simp [go_sem, q5], by simp [go_sem, p0], by simp [go_sem, p1], by simp [go_sem, p2], by simp [go_sem, p3], by simp [go_sem, p4], by simp [go_sem, p5]⟩
            case measure => simp [intOf]
        · have b1 : decide (2 < r 4 + l 1) = true := decide_eq_true (by omega)
          have N0 : litB r l 1 = false := by simp [litB, a]; intro h; exact absurd h b
          have N : Hid (litB r l 1 = false) := N0
          clear N0
          cases c : (r 1 == 0) <;> cases d : decide (0 < l 1)
          all_goals
            go_wp2_with (first | (go_quiet ((first | (go_at_call 50; first | exact quiet_left (l1In_any _ _ _ _) | exact quiet_add_left (l1In_any _ _ _ _))))) | (go_at_call 50; refine (l1In_any _ _ _ _).mono ?_; rintro e w' ⟨rfl, rfl⟩) | (go_region))
            refine bodyPost_ret (v := .tuple #[A6 (opt (litTo r l 3) (litsB r l)), .bool (litsB r l)]) (by simp [results, Try.results58, go_sem, opt, lits_no (by omega) N.out, q0, q1, q2, q3, q4, q5]) rfl ⟨rfl, by (repeat first | (with_reducible assumption) | (with_reducible exact Below.refl _ _) | ((with_reducible refine bl_alloc _ ?_ ?_); focus (first | (simp; done) | (simp; omega) | omega)) | ((with_reducible refine bl_set _ ?_ ?_); focus (first | (simp; done) | (simp; omega) | omega)) | (with_reducible refine Below.drew ?_) | (with_reducible refine bl_drewN _ ?_))⟩
    · rw [show litTo r l 2 0 = r 0 from rfl] at c0
      rw [show litTo r l 2 1 = r 1 from rfl] at c1
      rw [show litTo r l 2 2 = r 2 from rfl] at c2
      rw [show litTo r l 2 3 = r 3 + l 0 from rfl] at c3
      rw [show litTo r l 2 4 = r 4 + l 1 from rfl] at c4
      rw [show litTo r l 2 5 = r 5 from rfl] at c5
      cases a : inB 0 2 (l 2)
      · have N0 : litB r l 2 = false := by simp [litB, a]
        have N : Hid (litB r l 2 = false) := N0
        clear N0
        go_wp2_with (first | (go_quiet ((first | (go_at_call 50; first | exact quiet_left (l1In_any _ _ _ _) | exact quiet_add_left (l1In_any _ _ _ _))))) | (go_at_call 50; refine (l1In_any _ _ _ _).mono ?_; rintro e w' ⟨rfl, rfl⟩) | (go_region))
        refine bodyPost_ret (v := .tuple #[A6 (opt (litTo r l 3) (litsB r l)), .bool (litsB r l)]) (by simp [results, Try.results58, go_sem, opt, lits_no (by omega) N.out, q0, q1, q2, q3, q4, q5]) rfl ⟨rfl, by (repeat first | (with_reducible assumption) | (with_reducible exact Below.refl _ _) | ((with_reducible refine bl_alloc _ ?_ ?_); focus (first | (simp; done) | (simp; omega) | omega)) | ((with_reducible refine bl_set _ ?_ ?_); focus (first | (simp; done) | (simp; omega) | omega)) | (with_reducible refine Below.drew ?_) | (with_reducible refine bl_drewN _ ?_))⟩
      · have al := inB_iff.1 a
        obtain ⟨al0, al1⟩ := al
        by_cases b : r 5 + l 2 ≤ 2
        · have b1 : decide (2 < r 5 + l 2) = false := decide_eq_false (by omega)
          by_cases c : r 2 = 0
          · have c9 : (r 2 == 0) = true := by simp [c]
            by_cases d : l 2 = 0
            · have d1 : decide (0 < l 2) = false := by simp [d]
              have Y0 : litB r l 2 = true := by unfold litB; rw [a, decide_eq_true (show r (3 + 2) + l 2 ≤ 2 from b), decide_eq_false (show ¬ 0 < l 2 by omega)]; simp
              have Y : Hid (litB r l 2 = true) := Y0
              clear Y0 c d
              go_wp2_with (first | (go_quiet ((first | (go_at_call 50; first | exact quiet_left (l1In_any _ _ _ _) | exact quiet_add_left (l1In_any _ _ _ _))))) | (go_at_call 50; refine (l1In_any _ _ _ _).mono ?_; rintro e w' ⟨rfl, rfl⟩) | (go_region))
              go_roundw
              case rel => exact ⟨2 + 1, by omega, by go_num, lits_more HP.out Y.out, by (repeat first | (with_reducible assumption) | (with_reducible exact Below.refl _ _) | ((with_reducible refine bl_alloc _ ?_ ?_); focus (first | (simp; done) | (simp; omega) | omega)) | ((with_reducible refine bl_set _ ?_ ?_); focus (first | (simp; done) | (simp; omega) | omega)) | (with_reducible refine Below.drew ?_) | (with_reducible refine bl_drewN _ ?_)), by rw [show litTo r l (2 + 1) 0 = r 0 from rfl]; simp [go_sem, c0], by rw [show litTo r l (2 + 1) 1 = r 1 from rfl]; simp [go_sem, c1], by rw [show litTo r l (2 + 1) 2 = r 2 from rfl]; simp [go_sem, c2], by rw [show litTo r l (2 + 1) 3 = r 3 + l 0 from rfl]; simp [go_sem, c3], by rw [show litTo r l (2 + 1) 4 = r 4 + l 1 from rfl]; simp [go_sem, c4], by rw [show litTo r l (2 + 1) 5 = r 5 + l 2 from rfl]; simp [go_sem, c5], by simp [go_sem, f3], by simp [go_sem, f4], by simp [go_sem, f5], by simp [go_sem, m0], by simp [go_sem, m1], by simp [go_sem, m2], by simp [go_sem, q0], by simp [go_sem, q1], by simp [go_sem, q2], by simp [go_sem, q3], by simp [go_sem, q4], by simp [go_sem, q5], by simp [go_sem, p0], by simp [go_sem, p1], by simp [go_sem, p2], by simp [go_sem, p3], by simp [go_sem, p4], by simp [go_sem, p5]⟩
              case measure => simp [intOf]
            · have d1 : decide (0 < l 2) = true := by simp; omega
              have N0 : litB r l 2 = false := by simp [litB, a, c]; omega
              have N : Hid (litB r l 2 = false) := N0
              clear N0 c d
              go_wp2_with (first | (go_quiet ((first | (go_at_call 50; first | exact quiet_left (l1In_any _ _ _ _) | exact quiet_add_left (l1In_any _ _ _ _))))) | (go_at_call 50; refine (l1In_any _ _ _ _).mono ?_; rintro e w' ⟨rfl, rfl⟩) | (go_region))
              refine bodyPost_ret (v := .tuple #[A6 (opt (litTo r l 3) (litsB r l)), .bool (litsB r l)]) (by simp [results, Try.results58, go_sem, opt, lits_no (by omega) N.out, q0, q1, q2, q3, q4, q5]) rfl ⟨rfl, by (repeat first | (with_reducible assumption) | (with_reducible exact Below.refl _ _) | ((with_reducible refine bl_alloc _ ?_ ?_); focus (first | (simp; done) | (simp; omega) | omega)) | ((with_reducible refine bl_set _ ?_ ?_); focus (first | (simp; done) | (simp; omega) | omega)) | (with_reducible refine Below.drew ?_) | (with_reducible refine bl_drewN _ ?_))⟩
          · have c9 : (r 2 == 0) = false := by simp [c]
            have Y0 : litB r l 2 = true := by simp [litB, a, c]; exact b
            have Y : Hid (litB r l 2 = true) := Y0
            clear Y0 c
            go_wp2_with (first | (go_quiet ((first | (go_at_call 50; first | exact quiet_left (l1In_any _ _ _ _) | exact quiet_add_left (l1In_any _ _ _ _))))) | (go_at_call 50; refine (l1In_any _ _ _ _).mono ?_; rintro e w' ⟨rfl, rfl⟩) | (go_region))
            go_roundw
            case rel => exact ⟨2 + 1, by omega, by go_num, lits_more HP.out Y.out, by (repeat first | (with_reducible assumption) | (with_reducible exact Below.refl _ _) | ((with_reducible refine bl_alloc _ ?_ ?_); focus (first | (simp; done) | (simp; omega) | omega)) | ((with_reducible refine bl_set _ ?_ ?_); focus (first | (simp; done) | (simp; omega) | omega)) | (with_reducible refine Below.drew ?_) | (with_reducible refine bl_drewN _ ?_)), by rw [show litTo r l (2 + 1) 0 = r 0 from rfl]; simp [go_sem, c0], by rw [show litTo r l (2 + 1) 1 = r 1 from rfl]; simp [go_sem, c1], by rw [show litTo r l (2 + 1) 2 = r 2 from rfl]; simp [go_sem, c2], by rw [show litTo r l (2 + 1) 3 = r 3 + l 0 from rfl]; simp [go_sem, c3], by rw [show litTo r l (2 + 1) 4 = r 4 + l 1 from rfl]; simp [go_sem, c4], by rw [show litTo r l (2 + 1) 5 = r 5 + l 2 from rfl]; simp [go_sem, c5], by simp [go_sem, f3], by simp [go_sem, f4], by simp [go_sem, f5], by simp [go_sem, m0], by simp [go_sem, m1], by simp [go_sem, m2], by simp [go_sem, q0], by simp [go_sem, q1], by simp [go_sem, q2], by simp [go_sem, q3], by simp [go_sem, q4], by simp [go_sem, q5], by simp [go_sem, p0], by simp [go_sem, p1], by simp [go_sem, p2], by simp [go_sem, p3], by simp [go_sem, p4], by simp [go_sem, p5]⟩
            case measure => simp [intOf]
        · have b1 : decide (2 < r 5 + l 2) = true := decide_eq_true (by omega)
          have N0 : litB r l 2 = false := by simp [litB, a]; intro h; exact absurd h b
          have N : Hid (litB r l 2 = false) := N0
          clear N0
          cases c : (r 2 == 0) <;> cases d : decide (0 < l 2)
          all_goals
            go_wp2_with (first | (go_quiet ((first | (go_at_call 50; first | exact quiet_left (l1In_any _ _ _ _) | exact quiet_add_left (l1In_any _ _ _ _))))) | (go_at_call 50; refine (l1In_any _ _ _ _).mono ?_; rintro e w' ⟨rfl, rfl⟩) | (go_region))
            refine bodyPost_ret (v := .tuple #[A6 (opt (litTo r l 3) (litsB r l)), .bool (litsB r l)]) (by simp [results, Try.results58, go_sem, opt, lits_no (by omega) N.out, q0, q1, q2, q3, q4, q5]) rfl ⟨rfl, by (repeat first | (with_reducible assumption) | (with_reducible exact Below.refl _ _) | ((with_reducible refine bl_alloc _ ?_ ?_); focus (first | (simp; done) | (simp; omega) | omega)) | ((with_reducible refine bl_set _ ?_ ?_); focus (first | (simp; done) | (simp; omega) | omega)) | (with_reducible refine Below.drew ?_) | (with_reducible refine bl_drewN _ ?_))⟩
    · rw [show litTo r l 3 0 = r 0 from rfl] at c0
      rw [show litTo r l 3 1 = r 1 from rfl] at c1
      rw [show litTo r l 3 2 = r 2 from rfl] at c2
      rw [show litTo r l 3 3 = r 3 + l 0 from rfl] at c3
      rw [show litTo r l 3 4 = r 4 + l 1 from rfl] at c4
      rw [show litTo r l 3 5 = r 5 + l 2 from rfl] at c5
      have V : litsB r l = true := lits_yes HP.out
      go_wp2_with fail
      refine bodyPost_ret (v := .tuple #[A6 (opt (litTo r l 3) (litsB r l)), .bool (litsB r l)]) (by simp [results, Try.results58, go_sem, opt, litTo, *]) rfl ⟨rfl, by (repeat first | (with_reducible assumption) | (with_reducible exact Below.refl _ _) | ((with_reducible refine bl_alloc _ ?_ ?_); focus (first | (simp; done) | (simp; omega) | omega)) | ((with_reducible refine bl_set _ ?_ ?_); focus (first | (simp; done) | (simp; omega) | omega)) | (with_reducible refine Below.drew ?_) | (with_reducible refine bl_drewN _ ?_))⟩

end Go.Proofs.Ytdbnajaimodnmaa
end
section
namespace Go.Proofs.Ytdbnajaimodnmaa
open Go.RowKit
/-- what is left of a place when some ticks have passed, as the code computes it -/
def burnQ (r : Nat → Int) (d : Int) (j : Nat) : Int := wrap64 (r j - wrap64 (d * r (3 + j)))
def burnF (r : Nat → Int) (d : Int) : Nat → Int := fun i => if i < 3 then burnQ r d i else if burnQ r d (i - 3) = 0 then 0 else r i
def overB (r : Nat → Int) (d : Int) (j : Nat) : Bool := decide (0 < r (3 + j)) && decide (r j / r (3 + j) < d)
def burnsB (r : Nat → Int) (d : Int) : Bool := (d == 0) || decide (0 < r 3) || decide (0 < r 4) || decide (0 < r 5)
def burnsOk (r : Nat → Int) (d : Int) : Bool := !overB r d 0 && !overB r d 1 && !overB r d 2 && burnsB r d
def burnV (r : Nat → Int) (d : Int) : Bool := isRopesB r && inB 0 (halvesF r / 2) d
theorem half_quot {a e : Int} (he : 1 ≤ e ∧ e ≤ 2) : (2 * a / e) / 2 = a / e := by
  obtain rfl | rfl : e = 1 ∨ e = 2 := by omega
  all_goals omega
/-- the state of the search for the next burning out, behind j places -/
def HInv (r : Nat → Int) (d : Int) (j : Nat) : Prop :=
  0 ≤ halvesTo r j ∧ (halvesTo r j = 0 → ∀ i, i < j → ¬ 0 < r (3 + i)) ∧ (halvesTo r j ≠ 0 → (∃ i, i < j ∧ 0 < r (3 + i)) ∧ (d ≤ halvesTo r j / 2 ↔ ∀ i, i < j → overB r d i = false))
theorem hinv_step {r : Nat → Int} (h : Rope r) {d : Int} {j : Nat} (hj : j < 3) (ih : HInv r d j) : HInv r d (j + 1) := by
  obtain ⟨i0, i1, i2⟩ := ih
  have en := h.en j hj
  have lo := h.lo j hj
  have no := h.no j hj
  unfold HInv
  have e : halvesTo r (j + 1) = hx r (halvesTo r j) j := rfl
  rw [e]
  unfold hx
  by_cases p : r (3 + j) = 0
  · rw [if_pos p]
    refine ⟨i0, fun z i hi => ?_, fun z => ?_⟩
    · by_cases q : i = j
      · subst q; omega
      · exact i1 z i (by omega)
    · obtain ⟨⟨i, hi, hp⟩, hq⟩ := i2 z
      refine ⟨⟨i, by omega, hp⟩, ?_⟩
      rw [hq]
      constructor
      · intro g i hi
        by_cases q : i = j
        · subst q; simp [overB, p]
        · exact g i (by omega)
      · intro g i hi; exact g i (by omega)
  · rw [if_neg p]
    have hp : 0 < r (3 + j) := by omega
    have hh := half_quot (a := r j) (e := r (3 + j)) (by omega)
    have hq1 : 1 ≤ 2 * r j / r (3 + j) := by
      have : r j ≠ 0 := fun z => p (no z)
      obtain z | z : r (3 + j) = 1 ∨ r (3 + j) = 2 := by omega
      all_goals rw [z]; omega
    have ov : overB r d j = false ↔ d ≤ r j / r (3 + j) := by
      simp [overB, hp]
    generalize hQ : 2 * r j / r (3 + j) = Q at *
    generalize hA : r j / r (3 + j) = A at *
    generalize hL : halvesTo r j = L at *
    have key : ∀ M : Int, M ≠ 0 → (d ≤ M / 2 ↔ (d ≤ A ∧ (L ≠ 0 → d ≤ L / 2))) → (∃ i, i < j + 1 ∧ 0 < r (3 + i)) ∧ (d ≤ M / 2 ↔ ∀ i, i < j + 1 → overB r d i = false) := by
      intro M _ hM
      refine ⟨⟨j, by omega, hp⟩, ?_⟩
      rw [hM]
      constructor
      · rintro ⟨g1, g2⟩ i hi
        by_cases q : i = j
        · subst q; exact ov.2 g1
        · by_cases z : L = 0
          · have := i1 z i (by omega)
            simp [overB, this]
          · exact (i2 z).2.1 (g2 z) i (by omega)
      · intro g
        exact ⟨ov.1 (g j (by omega)), fun z => (i2 z).2.2 (fun i hi => g i (by omega))⟩
    by_cases c : L = 0 ∨ Q < L
    · rw [if_pos c]
      exact ⟨by omega, fun z => by omega, fun z => key Q z (by omega)⟩
    · rw [if_neg c]
      exact ⟨by omega, fun z => by omega, fun z => key L z (by omega)⟩
theorem burns_ok {r : Nat → Int} (h : Rope r) {d : Int} (hd : 0 ≤ d) : burnsOk r d = inB 0 (halvesF r / 2) d := by
  have h0 : HInv r d 0 := ⟨Int.le_refl 0, fun _ i hi => absurd hi (Nat.not_lt_zero i), fun z => absurd rfl z⟩
  have h3 := hinv_step h (j := 2) (by omega) (hinv_step h (j := 1) (by omega) (hinv_step h (j := 0) (by omega) h0))
  obtain ⟨a, b, c⟩ := h3
  have e : halvesTo r (2 + 1) = halvesF r := rfl
  rw [e] at a b c
  rw [inB_t hd]
  by_cases z : halvesF r = 0
  · have b' := b z
    have q0 : ¬ 0 < r 3 := b' 0 (by omega)
    have q1 : ¬ 0 < r 4 := b' 1 (by omega)
    have q2 : ¬ 0 < r 5 := b' 2 (by omega)
    rw [z]
    simp only [burnsOk, overB, burnsB, q0, q1, q2, decide_false, Bool.false_and, Bool.not_false, Bool.and_self, Bool.true_and, Bool.or_false]
    rw [Bool.eq_iff_iff]
    simp
    omega
  · obtain ⟨⟨i, hi, hp⟩, hq⟩ := c z
    have hb : burnsB r d = true := by
      obtain rfl | rfl | rfl : i = 0 ∨ i = 1 ∨ i = 2 := by omega
      · have : 0 < r 3 := hp
        simp [burnsB, this]
      · have : 0 < r 4 := hp
        simp [burnsB, this]
      · have : 0 < r 5 := hp
        simp [burnsB, this]
    rw [Bool.eq_iff_iff, decide_eq_true_eq, hq]
    simp only [burnsOk, hb, Bool.and_true, Bool.and_eq_true, Bool.not_eq_true']
    constructor
    · rintro ⟨⟨g0, g1⟩, g2⟩ i hi
      obtain rfl | rfl | rfl : i = 0 ∨ i = 1 ∨ i = 2 := by omega
      all_goals assumption
    · intro g
      exact ⟨⟨g 0 (by omega), g 1 (by omega)⟩, g 2 (by omega)⟩
end Go.Proofs.Ytdbnajaimodnmaa
end
section
namespace Go.Proofs.Ytdbnajaimodnmaa
open Go.RowKit
set_option linter.unusedVariables false

set_option maxHeartbeats 1600000 in
theorem burn_any (r : Nat → Int) (d : Int) (w : World) : Calls Try.prog 41 #[A6 r, .int .i64 d] w fun e w' => e = .returned (A6 (burnF r d)) ∧ Below w.heap.size w w' := by
  cases q0 : (wrap64 (r 0 - wrap64 (d * r 3)) == 0) <;> cases q1 : (wrap64 (r 1 - wrap64 (d * r 4)) == 0) <;> cases q2 : (wrap64 (r 2 - wrap64 (d * r 5)) == 0)
  all_goals
    go_enter Try.func41, Try.ntmps41
    go_wp2_with fail
    refine wp_loop_rounds 4 ?_
    go_wp2_with (first | (rw [rounds_succ]) | (go_region))
    simp only [beq_iff_eq, beq_eq_false_iff_ne, ne_eq] at q0 q1 q2
    refine bodyPost_ret (v := A6 (burnF r d)) (by simp [results, Try.results41, go_sem, burnF, burnQ, q0, q1, q2]) rfl ⟨rfl, by (repeat first | (with_reducible assumption) | (with_reducible exact Below.refl _ _) | ((with_reducible refine bl_alloc _ ?_ ?_); focus (first | (simp; done) | (simp; omega) | omega)) | ((with_reducible refine bl_set _ ?_ ?_); focus (first | (simp; done) | (simp; omega) | omega)) | (with_reducible refine Below.drew ?_) | (with_reducible refine bl_drewN _ ?_))⟩

set_option maxHeartbeats 1600000 in
theorem l5Burn_any (r : Nat → Int) (d : Int) (w : World) : Calls Try.prog 60 #[A6 r, .int .i64 d] w fun e w' => e = .returned (A6 (burnF r d)) ∧ Below w.heap.size w w' := by
  cases q0 : (wrap64 (r 0 - wrap64 (d * r 3)) == 0) <;> cases q1 : (wrap64 (r 1 - wrap64 (d * r 4)) == 0) <;> cases q2 : (wrap64 (r 2 - wrap64 (d * r 5)) == 0)
  all_goals
    go_enter Try.func60, Try.ntmps60
    go_wp2_with fail
    refine wp_loop_rounds 4 ?_
    go_wp2_with (first | (rw [rounds_succ]) | (go_region))
    simp only [beq_iff_eq, beq_eq_false_iff_ne, ne_eq] at q0 q1 q2
    refine bodyPost_ret (v := A6 (burnF r d)) (by simp [results, Try.results60, go_sem, burnF, burnQ, q0, q1, q2]) rfl ⟨rfl, by (repeat first | (with_reducible assumption) | (with_reducible exact Below.refl _ _) | ((with_reducible refine bl_alloc _ ?_ ?_); focus (first | (simp; done) | (simp; omega) | omega)) | ((with_reducible refine bl_set _ ?_ ?_); focus (first | (simp; done) | (simp; omega) | omega)) | (with_reducible refine Below.drew ?_) | (with_reducible refine bl_drewN _ ?_))⟩

end Go.Proofs.Ytdbnajaimodnmaa
end
