/- Contracts: lighting ropes. No statement of the seat is proved here. -/
import Derived.Test.YtgfiggmkncafiaaRopesc
namespace Go.Proofs.Ytgfiggmkncafiaa
open Go.RowKit
set_option linter.unusedVariables false
theorem lits_no {r l : Nat → Int} {j : Nat} (hj : j < 3) (h : litB r l j = false) : litsB r l = false := by
  obtain rfl | rfl | rfl : j = 0 ∨ j = 1 ∨ j = 2 := by omega
  all_goals simp [litsB, h]
theorem lits_yes {r l : Nat → Int} (h : ∀ i, i < 3 → litB r l i = true) : litsB r l = true := by
  simp [litsB, h 0 (by omega), h 1 (by omega), h 2 (by omega)]
theorem lits_more {r l : Nat → Int} {j : Nat} (h : ∀ i, i < j → litB r l i = true) (hj : litB r l j = true) : ∀ i, i < j + 1 → litB r l i = true := by
  intro i hi
  by_cases e : i = j
  · subst e; exact hj
  · exact h i (by omega)

set_option maxHeartbeats 3200000 in
theorem light_any (r l : Nat → Int) (hr : Rope r) (w : World) : Calls Try.prog 61 #[A6 r, A3 l] w fun e w' => e = .returned (.tuple #[A6 (opt (litTo r l 3) (litsB r l)), .bool (litsB r l)]) ∧ Below w.heap.size w w' := by
  have lo0 := hr.lo 0 (by omega)
  have en0 : 0 ≤ r 3 ∧ r 3 ≤ 2 := hr.en 0 (by omega)
  have lo1 := hr.lo 1 (by omega)
  have en1 : 0 ≤ r 4 ∧ r 4 ≤ 2 := hr.en 1 (by omega)
  have lo2 := hr.lo 2 (by omega)
  have en2 : 0 ≤ r 5 ∧ r 5 ≤ 2 := hr.en 2 (by omega)
  obtain ⟨lo00, lo01⟩ := lo0
  obtain ⟨lo10, lo11⟩ := lo1
  obtain ⟨lo20, lo21⟩ := lo2
  obtain ⟨en00, en01⟩ := en0
  obtain ⟨en10, en11⟩ := en1
  obtain ⟨en20, en21⟩ := en2
  have i0 : ∀ w : World, (Instr.index 27 (.agg #[.int .i64 (r 0), .int .i64 (r 1), .int .i64 (r 2)]) (.int .i64 0)).run Try.prog w = .ok (.int .i64 (r 0)) w := fun _ => by kernel_rfl
  have i1 : ∀ w : World, (Instr.index 27 (.agg #[.int .i64 (r 0), .int .i64 (r 1), .int .i64 (r 2)]) (.int .i64 1)).run Try.prog w = .ok (.int .i64 (r 1)) w := fun _ => by kernel_rfl
  have i2 : ∀ w : World, (Instr.index 27 (.agg #[.int .i64 (r 0), .int .i64 (r 1), .int .i64 (r 2)]) (.int .i64 2)).run Try.prog w = .ok (.int .i64 (r 2)) w := fun _ => by kernel_rfl
  have il0 : ∀ w : World, (Instr.index 27 (A3 l) (.int .i64 0)).run Try.prog w = .ok (.int .i64 (l 0)) w := fun _ => by kernel_rfl
  have il1 : ∀ w : World, (Instr.index 27 (A3 l) (.int .i64 1)).run Try.prog w = .ok (.int .i64 (l 1)) w := fun _ => by kernel_rfl
  have il2 : ∀ w : World, (Instr.index 27 (A3 l) (.int .i64 2)).run Try.prog w = .ok (.int .i64 (l 2)) w := fun _ => by kernel_rfl
  clear hr
  go_enter Try.func61, Try.ntmps61
  go_wp2_with fail
  go_loopw [9] (fun i wr => ∃ j : Nat, j ≤ 3 ∧ i = .int .i64 j ∧ Hid (∀ i, i < j → litB r l i = true) ∧ Below w.heap.size w wr ∧ wr.cell? ⟨w.heap.size, 0, none⟩ = some (.int .i64 (litTo r l j 0)) ∧ wr.cell? ⟨w.heap.size, 1, none⟩ = some (.int .i64 (litTo r l j 1)) ∧ wr.cell? ⟨w.heap.size, 2, none⟩ = some (.int .i64 (litTo r l j 2)) ∧ wr.cell? ⟨w.heap.size, 3, none⟩ = some (.int .i64 (litTo r l j 3)) ∧ wr.cell? ⟨w.heap.size, 4, none⟩ = some (.int .i64 (litTo r l j 4)) ∧ wr.cell? ⟨w.heap.size, 5, none⟩ = some (.int .i64 (litTo r l j 5)) ∧ wr.frozen? ⟨w.heap.size, 3, none⟩ = false ∧ wr.frozen? ⟨w.heap.size, 4, none⟩ = false ∧ wr.frozen? ⟨w.heap.size, 5, none⟩ = false ∧ wr.cell? ⟨w.heap.size + 1, 0, none⟩ = some (.int .i64 (l 0)) ∧ wr.cell? ⟨w.heap.size + 1, 1, none⟩ = some (.int .i64 (l 1)) ∧ wr.cell? ⟨w.heap.size + 1, 2, none⟩ = some (.int .i64 (l 2)) ∧ wr.cell? ⟨w.heap.size + 1 + 1, 0, none⟩ = some (.int .i64 0) ∧ wr.cell? ⟨w.heap.size + 1 + 1, 1, none⟩ = some (.int .i64 0) ∧ wr.cell? ⟨w.heap.size + 1 + 1, 2, none⟩ = some (.int .i64 0) ∧ wr.cell? ⟨w.heap.size + 1 + 1, 3, none⟩ = some (.int .i64 0) ∧ wr.cell? ⟨w.heap.size + 1 + 1, 4, none⟩ = some (.int .i64 0) ∧ wr.cell? ⟨w.heap.size + 1 + 1, 5, none⟩ = some (.int .i64 0) ∧ wr.frozen? ⟨w.heap.size + 1 + 1, 0, none⟩ = false ∧ wr.frozen? ⟨w.heap.size + 1 + 1, 1, none⟩ = false ∧ wr.frozen? ⟨w.heap.size + 1 + 1, 2, none⟩ = false ∧ wr.frozen? ⟨w.heap.size + 1 + 1, 3, none⟩ = false ∧ wr.frozen? ⟨w.heap.size + 1 + 1, 4, none⟩ = false ∧ wr.frozen? ⟨w.heap.size + 1 + 1, 5, none⟩ = false) (fun i _ => 3 - (intOf i).toNat)
  case atStart => exact ⟨0, by omega, rfl, (fun i hi => absurd hi (Nat.not_lt_zero i) : ∀ i, i < 0 → litB r l i = true), by (repeat first | (with_reducible assumption) | (with_reducible exact Below.refl _ _) | ((with_reducible refine bl_alloc _ ?_ ?_); focus (first | (simp; done) | (simp; omega) | omega)) | ((with_reducible refine bl_set _ ?_ ?_); focus (first | (simp; done) | (simp; omega) | omega)) | (with_reducible refine Below.drew ?_) | (with_reducible refine bl_drewN _ ?_)), by rw [show litTo r l 0 0 = r 0 from rfl]; simp [go_sem], by rw [show litTo r l 0 1 = r 1 from rfl]; simp [go_sem], by rw [show litTo r l 0 2 = r 2 from rfl]; simp [go_sem], by rw [show litTo r l 0 3 = r 3 from rfl]; simp [go_sem], by rw [show litTo r l 0 4 = r 4 from rfl]; simp [go_sem], by rw [show litTo r l 0 5 = r 5 from rfl]; simp [go_sem], by simp [go_sem], by simp [go_sem], by simp [go_sem], by simp [go_sem], by simp [go_sem], by simp [go_sem], by simp [go_sem], by simp [go_sem], by simp [go_sem], by simp [go_sem], by simp [go_sem], by simp [go_sem], by simp [go_sem], by simp [go_sem], by simp [go_sem], by simp [go_sem], by simp [go_sem], by simp [go_sem]⟩
  case round =>
    obtain ⟨j, hj, rfl, HP, hB, c0, c1, c2, c3, c4, c5, f3, f4, f5, m0, m1, m2, q0, q1, q2, q3, q4, q5, p0, p1, p2, p3, p4, p5⟩ := hrel
    obtain rfl | rfl | rfl | rfl : j = 0 ∨ j = 1 ∨ j = 2 ∨ j = 3 := by omega
    · rw [show litTo r l 0 0 = r 0 from rfl] at c0
      rw [show litTo r l 0 1 = r 1 from rfl] at c1
      rw [show litTo r l 0 2 = r 2 from rfl] at c2
      rw [show litTo r l 0 3 = r 3 from rfl] at c3
      rw [show litTo r l 0 4 = r 4 from rfl] at c4
      rw [show litTo r l 0 5 = r 5 from rfl] at c5
      cases a : inB 0 2 (l 0)
      · have N0 : litB r l 0 = false := by simp [litB, a]
        have N : Hid (litB r l 0 = false) := N0
        clear N0
        go_wp2_with (first | (go_at_call 45; refine (within_any _ _ _ _).mono ?_; rintro e w' ⟨rfl, rfl⟩))
        refine bodyPost_ret (v := .tuple #[A6 (opt (litTo r l 3) (litsB r l)), .bool (litsB r l)]) (by simp [results, Try.results61, go_sem, opt, lits_no (by omega) N.out, q0, q1, q2, q3, q4, q5]) rfl ⟨rfl, by (repeat first | (with_reducible assumption) | (with_reducible exact Below.refl _ _) | ((with_reducible refine bl_alloc _ ?_ ?_); focus (first | (simp; done) | (simp; omega) | omega)) | ((with_reducible refine bl_set _ ?_ ?_); focus (first | (simp; done) | (simp; omega) | omega)) | (with_reducible refine Below.drew ?_) | (with_reducible refine bl_drewN _ ?_))⟩
      · have al := inB_iff.1 a
        obtain ⟨al0, al1⟩ := al
        by_cases b : r 3 + l 0 ≤ 2
        · have b1 : decide (2 < r 3 + l 0) = false := decide_eq_false (by omega)
          by_cases c : r 0 = 0
          · have c9 : (r 0 == 0) = true := by simp [c]
            by_cases d : l 0 = 0
            · have d1 : (l 0 == 0) = true := by simp [d]
              have Y0 : litB r l 0 = true := by unfold litB; rw [a, decide_eq_true (show r (3 + 0) + l 0 ≤ 2 from b), decide_eq_false (show ¬ 0 < l 0 by omega)]; simp
              have Y : Hid (litB r l 0 = true) := Y0
              clear Y0 c d
              go_wp2_with (first | (go_at_call 45; refine (within_any _ _ _ _).mono ?_; rintro e w' ⟨rfl, rfl⟩))
              go_roundw
              case rel => exact ⟨0 + 1, by omega, by go_num, lits_more HP.out Y.out, by (repeat first | (with_reducible assumption) | (with_reducible exact Below.refl _ _) | ((with_reducible refine bl_alloc _ ?_ ?_); focus (first | (simp; done) | (simp; omega) | omega)) | ((with_reducible refine bl_set _ ?_ ?_); focus (first | (simp; done) | (simp; omega) | omega)) | (with_reducible refine Below.drew ?_) | (with_reducible refine bl_drewN _ ?_)), by rw [show litTo r l (0 + 1) 0 = r 0 from rfl]; simp [go_sem, c0], by rw [show litTo r l (0 + 1) 1 = r 1 from rfl]; simp [go_sem, c1], by rw [show litTo r l (0 + 1) 2 = r 2 from rfl]; simp [go_sem, c2], by rw [show litTo r l (0 + 1) 3 = r 3 + l 0 from rfl]; simp [go_sem, c3], by rw [show litTo r l (0 + 1) 4 = r 4 from rfl]; simp [go_sem, c4], by rw [show litTo r l (0 + 1) 5 = r 5 from rfl]; simp [go_sem, c5], by simp [go_sem, f3], by simp [go_sem, f4], by simp [go_sem, f5], by simp [go_sem, m0], by simp [go_sem, m1], by simp [go_sem, m2], by simp [go_sem, q0], by simp [go_sem, q1], by simp [go_sem, q2], by simp [go_sem, q3], by simp [go_sem, q4], by simp [go_sem, q5], by simp [go_sem, p0], by simp [go_sem, p1], by simp [go_sem, p2], by simp [go_sem, p3], by simp [go_sem, p4], by simp [go_sem, p5]⟩
              case measure => simp [intOf]
            · have d1 : (l 0 == 0) = false := by simp; omega
              have N0 : litB r l 0 = false := by simp [litB, a, c]; omega
              have N : Hid (litB r l 0 = false) := N0
              clear N0 c d
              go_wp2_with (first | (go_at_call 45; refine (within_any _ _ _ _).mono ?_; rintro e w' ⟨rfl, rfl⟩))
              refine bodyPost_ret (v := .tuple #[A6 (opt (litTo r l 3) (litsB r l)), .bool (litsB r l)]) (by simp [results, Try.results61, go_sem, opt, lits_no (by omega) N.out, q0, q1, q2, q3, q4, q5]) rfl ⟨rfl, by (repeat first | (with_reducible assumption) | (with_reducible exact Below.refl _ _) | ((with_reducible refine bl_alloc _ ?_ ?_); focus (first | (simp; done) | (simp; omega) | omega)) | ((with_reducible refine bl_set _ ?_ ?_); focus (first | (simp; done) | (simp; omega) | omega)) | (with_reducible refine Below.drew ?_) | (with_reducible refine bl_drewN _ ?_))⟩
          · have c9 : (r 0 == 0) = false := by simp [c]
            have Y0 : litB r l 0 = true := by simp [litB, a, c]; exact b
            have Y : Hid (litB r l 0 = true) := Y0
            clear Y0 c
            go_wp2_with (first | (go_at_call 45; refine (within_any _ _ _ _).mono ?_; rintro e w' ⟨rfl, rfl⟩))
            go_roundw
            case rel => exact ⟨0 + 1, by omega, by go_num, lits_more HP.out Y.out, by (repeat first | (with_reducible assumption) | (with_reducible exact Below.refl _ _) | ((with_reducible refine bl_alloc _ ?_ ?_); focus (first | (simp; done) | (simp; omega) | omega)) | ((with_reducible refine bl_set _ ?_ ?_); focus (first | (simp; done) | (simp; omega) | omega)) | (with_reducible refine Below.drew ?_) | (with_reducible refine bl_drewN _ ?_)), by rw [show litTo r l (0 + 1) 0 = r 0 from rfl]; simp [go_sem, c0], by rw [show litTo r l (0 + 1) 1 = r 1 from rfl]; simp [go_sem, c1], by rw [show litTo r l (0 + 1) 2 = r 2 from rfl]; simp [go_sem, c2], by rw [show litTo r l (0 + 1) 3 = r 3 + l 0 from rfl]; simp [go_sem, c3], by rw [show litTo r l (0 + 1) 4 = r 4 from rfl]; simp [go_sem, c4], by rw [show litTo r l (0 + 1) 5 = r 5 from rfl]; simp [go_sem, c5], by simp [go_sem, f3], by simp [go_sem, f4], by simp [go_sem, f5], by simp [go_sem, m0], by simp [go_sem, m1], by simp [go_sem, m2], by simp [go_sem, q0], by simp [go_sem, q1], by simp [go_sem, q2], by simp [go_sem, q3], by simp [go_sem, q4], by simp [go_sem, q5], by simp [go_sem, p0], by simp [go_sem, p1], by simp [go_sem, p2], by simp [go_sem, p3], by simp [go_sem, p4], by simp [go_sem, p5]⟩
            case measure => simp [intOf]
        · have b1 : decide (2 < r 3 + l 0) = true := decide_eq_true (by omega)
          have N0 : litB r l 0 = false := by simp [litB, a]; intro h; exact absurd h b
          have N : Hid (litB r l 0 = false) := N0
          clear N0
          cases c : (r 0 == 0) <;> cases d : (l 0 == 0)
          all_goals
            go_wp2_with (first | (go_at_call 45; refine (within_any _ _ _ _).mono ?_; rintro e w' ⟨rfl, rfl⟩))
            refine bodyPost_ret (v := .tuple #[A6 (opt (litTo r l 3) (litsB r l)), .bool (litsB r l)]) (by simp [results, Try.results61, go_sem, opt, lits_no (by omega) N.out, q0, q1, q2, q3, q4, q5]) rfl ⟨rfl, by (repeat first | (with_reducible assumption) | (with_reducible exact Below.refl _ _) | ((with_reducible refine bl_alloc _ ?_ ?_); focus (first | (simp; done) | (simp; omega) | omega)) | ((with_reducible refine bl_set _ ?_ ?_); focus (first | (simp; done) | (simp; omega) | omega)) | (with_reducible refine Below.drew ?_) | (with_reducible refine bl_drewN _ ?_))⟩
    · rw [show litTo r l 1 0 = r 0 from rfl] at c0
      rw [show litTo r l 1 1 = r 1 from rfl] at c1
      rw [show litTo r l 1 2 = r 2 from rfl] at c2
      rw [show litTo r l 1 3 = r 3 + l 0 from rfl] at c3
      rw [show litTo r l 1 4 = r 4 from rfl] at c4
      rw [show litTo r l 1 5 = r 5 from rfl] at c5
      cases a : inB 0 2 (l 1)
      · have N0 : litB r l 1 = false := by simp [litB, a]
        have N : Hid (litB r l 1 = false) := N0
        clear N0
        go_wp2_with (first | (go_at_call 45; refine (within_any _ _ _ _).mono ?_; rintro e w' ⟨rfl, rfl⟩))
        refine bodyPost_ret (v := .tuple #[A6 (opt (litTo r l 3) (litsB r l)), .bool (litsB r l)]) (by simp [results, Try.results61, go_sem, opt, lits_no (by omega) N.out, q0, q1, q2, q3, q4, q5]) rfl ⟨rfl, by (repeat first | (with_reducible assumption) | (with_reducible exact Below.refl _ _) | ((with_reducible refine bl_alloc _ ?_ ?_); focus (first | (simp; done) | (simp; omega) | omega)) | ((with_reducible refine bl_set _ ?_ ?_); focus (first | (simp; done) | (simp; omega) | omega)) | (with_reducible refine Below.drew ?_) | (with_reducible refine bl_drewN _ ?_))⟩
      · have al := inB_iff.1 a
        obtain ⟨al0, al1⟩ := al
        by_cases b : r 4 + l 1 ≤ 2
        · have b1 : decide (2 < r 4 + l 1) = false := decide_eq_false (by omega)
          by_cases c : r 1 = 0
          · have c9 : (r 1 == 0) = true := by simp [c]
            by_cases d : l 1 = 0
            · have d1 : (l 1 == 0) = true := by simp [d]
              have Y0 : litB r l 1 = true := by unfold litB; rw [a, decide_eq_true (show r (3 + 1) + l 1 ≤ 2 from b), decide_eq_false (show ¬ 0 < l 1 by omega)]; simp
              have Y : Hid (litB r l 1 = true) := Y0
              clear Y0 c d
              go_wp2_with (first | (go_at_call 45; refine (within_any _ _ _ _).mono ?_; rintro e w' ⟨rfl, rfl⟩))
              go_roundw
              case rel => exact ⟨1 + 1, by omega, by go_num, lits_more HP.out Y.out, by (repeat first | (with_reducible assumption) | (with_reducible exact Below.refl _ _) | ((with_reducible refine bl_alloc _ ?_ ?_); focus (first | (simp; done) | (simp; omega) | omega)) | ((with_reducible refine bl_set _ ?_ ?_); focus (first | (simp; done) | (simp; omega) | omega)) | (with_reducible refine Below.drew ?_) | (with_reducible refine bl_drewN _ ?_)), by rw [show litTo r l (1 + 1) 0 = r 0 from rfl]; simp [go_sem, c0], by rw [show litTo r l (1 + 1) 1 = r 1 from rfl]; simp [go_sem, c1], by rw [show litTo r l (1 + 1) 2 = r 2 from rfl]; simp [go_sem, c2], by rw [show litTo r l (1 + 1) 3 = r 3 + l 0 from rfl]; simp [go_sem, c3], by rw [show litTo r l (1 + 1) 4 = r 4 + l 1 from rfl]; simp [go_sem, c4], by rw [show litTo r l (1 + 1) 5 = r 5 from rfl]; simp [go_sem, c5], by simp [go_sem, f3], by simp [go_sem, f4], by simp [go_sem, f5], by simp [go_sem, m0], by simp [go_sem, m1], by simp [go_sem, m2], by simp [go_sem, q0], by simp [go_sem, q1], by simp [go_sem, q2], by simp [go_sem, q3], by simp [go_sem, q4], by simp [go_sem, q5], by simp [go_sem, p0], by simp [go_sem, p1], by simp [go_sem, p2], by simp [go_sem, p3], by simp [go_sem, p4], by simp [go_sem, p5]⟩
              case measure => simp [intOf]
            · have d1 : (l 1 == 0) = false := by simp; omega
              have N0 : litB r l 1 = false := by simp [litB, a, c]; omega
              have N : Hid (litB r l 1 = false) := N0
              clear N0 c d
              go_wp2_with (first | (go_at_call 45; refine (within_any _ _ _ _).mono ?_; rintro e w' ⟨rfl, rfl⟩))
              refine bodyPost_ret (v := .tuple #[A6 (opt (litTo r l 3) (litsB r l)), .bool (litsB r l)]) (by simp [results, Try.results61, go_sem, opt, lits_no (by omega) N.out, q0, q1, q2, q3, q4, q5]) rfl ⟨rfl, by (repeat first | (with_reducible assumption) | (with_reducible exact Below.refl _ _) | ((with_reducible refine bl_alloc _ ?_ ?_); focus (first | (simp; done) | (simp; omega) | omega)) | ((with_reducible refine bl_set _ ?_ ?_); focus (first | (simp; done) | (simp; omega) | omega)) | (with_reducible refine Below.drew ?_) | (with_reducible refine bl_drewN _ ?_))⟩
          · have c9 : (r 1 == 0) = false := by simp [c]
            have Y0 : litB r l 1 = true := by simp [litB, a, c]; exact b
            have Y : Hid (litB r l 1 = true) := Y0
            clear Y0 c
            go_wp2_with (first | (go_at_call 45; refine (within_any _ _ _ _).mono ?_; rintro e w' ⟨rfl, rfl⟩))
            go_roundw
            case rel => exact ⟨1 + 1, by omega, by go_num, lits_more HP.out Y.out, by (repeat first | (with_reducible assumption) | (with_reducible exact Below.refl _ _) | ((with_reducible refine bl_alloc _ ?_ ?_); focus (first | (simp; done) | (simp; omega) | omega)) | ((with_reducible refine bl_set _ ?_ ?_); focus (first | (simp; done) | (simp; omega) | omega)) | (with_reducible refine Below.drew ?_) | (with_reducible refine bl_drewN _ ?_)), by rw [show litTo r l (1 + 1) 0 = r 0 from rfl]; simp [go_sem, c0], by rw [show litTo r l (1 + 1) 1 = r 1 from rfl]; simp [go_sem, c1], by rw [show litTo r l (1 + 1) 2 = r 2 from rfl]; simp [go_sem, c2], by rw [show litTo r l (1 + 1) 3 = r 3 + l 0 from rfl]; simp [go_sem, c3], by rw [show litTo r l (1 + 1) 4 = r 4 + l 1 from rfl]; simp [go_sem, c4], by rw [show litTo r l (1 + 1) 5 = r 5 from rfl]; simp [go_sem, c5], by simp [go_sem, f3], by simp [go_sem, f4], by simp [go_sem, f5], by simp [go_sem, m0], by simp [go_sem, m1], by simp [go_sem, m2], by simp [go_sem, q0], by simp [go_sem, q1], by simp [go_sem, q2], by simp [go_sem, q3], by simp [go_sem, q4], by simp [go_sem, q5], by simp [go_sem, p0], by simp [go_sem, p1], by simp [go_sem, p2], by simp [go_sem, p3], by simp [go_sem, p4], by simp [go_sem, p5]⟩
            case measure => simp [intOf]
        · have b1 : decide (2 < r 4 + l 1) = true := decide_eq_true (by omega)
          have N0 : litB r l 1 = false := by simp [litB, a]; intro h; exact absurd h b
          have N : Hid (litB r l 1 = false) := N0
          clear N0
          cases c : (r 1 == 0) <;> cases d : (l 1 == 0)
          all_goals
            go_wp2_with (first | (go_at_call 45; refine (within_any _ _ _ _).mono ?_; rintro e w' ⟨rfl, rfl⟩))
            refine bodyPost_ret (v := .tuple #[A6 (opt (litTo r l 3) (litsB r l)), .bool (litsB r l)]) (by simp [results, Try.results61, go_sem, opt, lits_no (by omega) N.out, q0, q1, q2, q3, q4, q5]) rfl ⟨rfl, by (repeat first | (with_reducible assumption) | (with_reducible exact Below.refl _ _) | ((with_reducible refine bl_alloc _ ?_ ?_); focus (first | (simp; done) | (simp; omega) | omega)) | ((with_reducible refine bl_set _ ?_ ?_); focus (first | (simp; done) | (simp; omega) | omega)) | (with_reducible refine Below.drew ?_) | (with_reducible refine bl_drewN _ ?_))⟩
    · rw [show litTo r l 2 0 = r 0 from rfl] at c0
      rw [show litTo r l 2 1 = r 1 from rfl] at c1
      rw [show litTo r l 2 2 = r 2 from rfl] at c2
      rw [show litTo r l 2 3 = r 3 + l 0 from rfl] at c3
      rw [show litTo r l 2 4 = r 4 + l 1 from rfl] at c4
      rw [show litTo r l 2 5 = r 5 from rfl] at c5
      cases a : inB 0 2 (l 2)
      · have N0 : litB r l 2 = false := by simp [litB, a]
        have N : Hid (litB r l 2 = false) := N0
        clear N0
        go_wp2_with (first | (go_at_call 45; refine (within_any _ _ _ _).mono ?_; rintro e w' ⟨rfl, rfl⟩))
        refine bodyPost_ret (v := .tuple #[A6 (opt (litTo r l 3) (litsB r l)), .bool (litsB r l)]) (by simp [results, Try.results61, go_sem, opt, lits_no (by omega) N.out, q0, q1, q2, q3, q4, q5]) rfl ⟨rfl, by (repeat first | (with_reducible assumption) | (with_reducible exact Below.refl _ _) | ((with_reducible refine bl_alloc _ ?_ ?_); focus (first | (simp; done) | (simp; omega) | omega)) | ((with_reducible refine bl_set _ ?_ ?_); focus (first | (simp; done) | (simp; omega) | omega)) | (with_reducible refine Below.drew ?_) | (with_reducible refine bl_drewN _ ?_))⟩
      · have al := inB_iff.1 a
        obtain ⟨al0, al1⟩ := al
        by_cases b : r 5 + l 2 ≤ 2
        · have b1 : decide (2 < r 5 + l 2) = false := decide_eq_false (by omega)
          by_cases c : r 2 = 0
          · have c9 : (r 2 == 0) = true := by simp [c]
            by_cases d : l 2 = 0
            · have d1 : (l 2 == 0) = true := by simp [d]
              have Y0 : litB r l 2 = true := by unfold litB; rw [a, decide_eq_true (show r (3 + 2) + l 2 ≤ 2 from b), decide_eq_false (show ¬ 0 < l 2 by omega)]; simp
              have Y : Hid (litB r l 2 = true) := Y0
              clear Y0 c d
              go_wp2_with (first | (go_at_call 45; refine (within_any _ _ _ _).mono ?_; rintro e w' ⟨rfl, rfl⟩))
              go_roundw
              case rel => exact ⟨2 + 1, by omega, by go_num, lits_more HP.out Y.out, by (repeat first | (with_reducible assumption) | (with_reducible exact Below.refl _ _) | ((with_reducible refine bl_alloc _ ?_ ?_); focus (first | (simp; done) | (simp; omega) | omega)) | ((with_reducible refine bl_set _ ?_ ?_); focus (first | (simp; done) | (simp; omega) | omega)) | (with_reducible refine Below.drew ?_) | (with_reducible refine bl_drewN _ ?_)), by rw [show litTo r l (2 + 1) 0 = r 0 from rfl]; simp [go_sem, c0], by rw [show litTo r l (2 + 1) 1 = r 1 from rfl]; simp [go_sem, c1], by rw [show litTo r l (2 + 1) 2 = r 2 from rfl]; simp [go_sem, c2], by rw [show litTo r l (2 + 1) 3 = r 3 + l 0 from rfl]; simp [go_sem, c3], by rw [show litTo r l (2 + 1) 4 = r 4 + l 1 from rfl]; simp [go_sem, c4], by rw [show litTo r l (2 + 1) 5 = r 5 + l 2 from rfl]; simp [go_sem, c5], by simp [go_sem, f3], by simp [go_sem, f4], by simp [go_sem, f5], by simp [go_sem, m0], by simp [go_sem, m1], by simp [go_sem, m2], by simp [go_sem, q0], by simp [go_sem, q1], by simp [go_sem, q2], by simp [go_sem, q3], by simp [go_sem, q4], by simp [go_sem, q5], by simp [go_sem, p0], by simp [go_sem, p1], by simp [go_sem, p2], by simp [go_sem, p3], by simp [go_sem, p4], by simp [go_sem, p5]⟩
              case measure => simp [intOf]
            · have d1 : (l 2 == 0) = false := by simp; omega
              have N0 : litB r l 2 = false := by simp [litB, a, c]; omega
              have N : Hid (litB r l 2 = false) := N0
              clear N0 c d
              go_wp2_with (first | (go_at_call 45; refine (within_any _ _ _ _).mono ?_; rintro e w' ⟨rfl, rfl⟩))
              refine bodyPost_ret (v := .tuple #[A6 (opt (litTo r l 3) (litsB r l)), .bool (litsB r l)]) (by simp [results, Try.results61, go_sem, opt, lits_no (by omega) N.out, q0, q1, q2, q3, q4, q5]) rfl ⟨rfl, by (repeat first | (with_reducible assumption) | (with_reducible exact Below.refl _ _) | ((with_reducible refine bl_alloc _ ?_ ?_); focus (first | (simp; done) | (simp; omega) | omega)) | ((with_reducible refine bl_set _ ?_ ?_); focus (first | (simp; done) | (simp; omega) | omega)) | (with_reducible refine Below.drew ?_) | (with_reducible refine bl_drewN _ ?_))⟩
          · have c9 : (r 2 == 0) = false := by simp [c]
            have Y0 : litB r l 2 = true := by simp [litB, a, c]; exact b
            have Y : Hid (litB r l 2 = true) := Y0
            clear Y0 c
            go_wp2_with (first | (go_at_call 45; refine (within_any _ _ _ _).mono ?_; rintro e w' ⟨rfl, rfl⟩))
            go_roundw
            case rel => exact ⟨2 + 1, by omega, by go_num, lits_more HP.out Y.out, by (repeat first | (with_reducible assumption) | (with_reducible exact Below.refl _ _) | ((with_reducible refine bl_alloc _ ?_ ?_); focus (first | (simp; done) | (simp; omega) | omega)) | ((with_reducible refine bl_set _ ?_ ?_); focus (first | (simp; done) | (simp; omega) | omega)) | (with_reducible refine Below.drew ?_) | (with_reducible refine bl_drewN _ ?_)), by rw [show litTo r l (2 + 1) 0 = r 0 from rfl]; simp [go_sem, c0], by rw [show litTo r l (2 + 1) 1 = r 1 from rfl]; simp [go_sem, c1], by rw [show litTo r l (2 + 1) 2 = r 2 from rfl]; simp [go_sem, c2], by rw [show litTo r l (2 + 1) 3 = r 3 + l 0 from rfl]; simp [go_sem, c3], by rw [show litTo r l (2 + 1) 4 = r 4 + l 1 from rfl]; simp [go_sem, c4], by rw [show litTo r l (2 + 1) 5 = r 5 + l 2 from rfl]; simp [go_sem, c5], by simp [go_sem, f3], by simp [go_sem, f4], by simp [go_sem, f5], by simp [go_sem, m0], by simp [go_sem, m1], by simp [go_sem, m2], by simp [go_sem, q0], by simp [go_sem, q1], by simp [go_sem, q2], by simp [go_sem, q3], by simp [go_sem, q4], by simp [go_sem, q5], by simp [go_sem, p0], by simp [go_sem, p1], by simp [go_sem, p2], by simp [go_sem, p3], by simp [go_sem, p4], by simp [go_sem, p5]⟩
            case measure => simp [intOf]
        · have b1 : decide (2 < r 5 + l 2) = true := decide_eq_true (by omega)
          have N0 : litB r l 2 = false := by simp [litB, a]; intro h; exact absurd h b
          have N : Hid (litB r l 2 = false) := N0
          clear N0
          cases c : (r 2 == 0) <;> cases d : (l 2 == 0)
          all_goals
            go_wp2_with (first | (go_at_call 45; refine (within_any _ _ _ _).mono ?_; rintro e w' ⟨rfl, rfl⟩))
            refine bodyPost_ret (v := .tuple #[A6 (opt (litTo r l 3) (litsB r l)), .bool (litsB r l)]) (by simp [results, Try.results61, go_sem, opt, lits_no (by omega) N.out, q0, q1, q2, q3, q4, q5]) rfl ⟨rfl, by (repeat first | (with_reducible assumption) | (with_reducible exact Below.refl _ _) | ((with_reducible refine bl_alloc _ ?_ ?_); focus (first | (simp; done) | (simp; omega) | omega)) | ((with_reducible refine bl_set _ ?_ ?_); focus (first | (simp; done) | (simp; omega) | omega)) | (with_reducible refine Below.drew ?_) | (with_reducible refine bl_drewN _ ?_))⟩
    · rw [show litTo r l 3 0 = r 0 from rfl] at c0
      rw [show litTo r l 3 1 = r 1 from rfl] at c1
      rw [show litTo r l 3 2 = r 2 from rfl] at c2
      rw [show litTo r l 3 3 = r 3 + l 0 from rfl] at c3
      rw [show litTo r l 3 4 = r 4 + l 1 from rfl] at c4
      rw [show litTo r l 3 5 = r 5 + l 2 from rfl] at c5
      have V : litsB r l = true := lits_yes HP.out
      go_wp2_with fail
      refine bodyPost_ret (v := .tuple #[A6 (opt (litTo r l 3) (litsB r l)), .bool (litsB r l)]) (by simp [results, Try.results61, go_sem, opt, litTo, *]) rfl ⟨rfl, by (repeat first | (with_reducible assumption) | (with_reducible exact Below.refl _ _) | ((with_reducible refine bl_alloc _ ?_ ?_); focus (first | (simp; done) | (simp; omega) | omega)) | ((with_reducible refine bl_set _ ?_ ?_); focus (first | (simp; done) | (simp; omega) | omega)) | (with_reducible refine Below.drew ?_) | (with_reducible refine bl_drewN _ ?_))⟩

set_option maxHeartbeats 3200000 in
theorem l5Light_any (r l : Nat → Int) (hr : Rope r) (w : World) : Calls Try.prog 60 #[A6 r, A3 l] w fun e w' => e = .returned (.tuple #[A6 (opt (litTo r l 3) (litsB r l)), .bool (litsB r l)]) ∧ Below w.heap.size w w' := by
  have lo0 := hr.lo 0 (by omega)
  have en0 : 0 ≤ r 3 ∧ r 3 ≤ 2 := hr.en 0 (by omega)
  have lo1 := hr.lo 1 (by omega)
  have en1 : 0 ≤ r 4 ∧ r 4 ≤ 2 := hr.en 1 (by omega)
  have lo2 := hr.lo 2 (by omega)
  have en2 : 0 ≤ r 5 ∧ r 5 ≤ 2 := hr.en 2 (by omega)
  obtain ⟨lo00, lo01⟩ := lo0
  obtain ⟨lo10, lo11⟩ := lo1
  obtain ⟨lo20, lo21⟩ := lo2
  obtain ⟨en00, en01⟩ := en0
  obtain ⟨en10, en11⟩ := en1
  obtain ⟨en20, en21⟩ := en2
  have i0 : ∀ w : World, (Instr.index 27 (.agg #[.int .i64 (r 0), .int .i64 (r 1), .int .i64 (r 2)]) (.int .i64 0)).run Try.prog w = .ok (.int .i64 (r 0)) w := fun _ => by kernel_rfl
  have i1 : ∀ w : World, (Instr.index 27 (.agg #[.int .i64 (r 0), .int .i64 (r 1), .int .i64 (r 2)]) (.int .i64 1)).run Try.prog w = .ok (.int .i64 (r 1)) w := fun _ => by kernel_rfl
  have i2 : ∀ w : World, (Instr.index 27 (.agg #[.int .i64 (r 0), .int .i64 (r 1), .int .i64 (r 2)]) (.int .i64 2)).run Try.prog w = .ok (.int .i64 (r 2)) w := fun _ => by kernel_rfl
  have il0 : ∀ w : World, (Instr.index 27 (A3 l) (.int .i64 0)).run Try.prog w = .ok (.int .i64 (l 0)) w := fun _ => by kernel_rfl
  have il1 : ∀ w : World, (Instr.index 27 (A3 l) (.int .i64 1)).run Try.prog w = .ok (.int .i64 (l 1)) w := fun _ => by kernel_rfl
  have il2 : ∀ w : World, (Instr.index 27 (A3 l) (.int .i64 2)).run Try.prog w = .ok (.int .i64 (l 2)) w := fun _ => by kernel_rfl
  clear hr
  go_enter Try.func60, Try.ntmps60
  go_wp2_with fail
  go_loopw [6] (fun i wr => ∃ j : Nat, j ≤ 3 ∧ i = .int .i64 j ∧ Hid (∀ i, i < j → litB r l i = true) ∧ Below w.heap.size w wr ∧ wr.cell? ⟨w.heap.size, 0, none⟩ = some (.int .i64 (litTo r l j 0)) ∧ wr.cell? ⟨w.heap.size, 1, none⟩ = some (.int .i64 (litTo r l j 1)) ∧ wr.cell? ⟨w.heap.size, 2, none⟩ = some (.int .i64 (litTo r l j 2)) ∧ wr.cell? ⟨w.heap.size, 3, none⟩ = some (.int .i64 (litTo r l j 3)) ∧ wr.cell? ⟨w.heap.size, 4, none⟩ = some (.int .i64 (litTo r l j 4)) ∧ wr.cell? ⟨w.heap.size, 5, none⟩ = some (.int .i64 (litTo r l j 5)) ∧ wr.frozen? ⟨w.heap.size, 3, none⟩ = false ∧ wr.frozen? ⟨w.heap.size, 4, none⟩ = false ∧ wr.frozen? ⟨w.heap.size, 5, none⟩ = false ∧ wr.cell? ⟨w.heap.size + 1, 0, none⟩ = some (.int .i64 (l 0)) ∧ wr.cell? ⟨w.heap.size + 1, 1, none⟩ = some (.int .i64 (l 1)) ∧ wr.cell? ⟨w.heap.size + 1, 2, none⟩ = some (.int .i64 (l 2)) ∧ wr.cell? ⟨w.heap.size + 1 + 1, 0, none⟩ = some (.int .i64 0) ∧ wr.cell? ⟨w.heap.size + 1 + 1, 1, none⟩ = some (.int .i64 0) ∧ wr.cell? ⟨w.heap.size + 1 + 1, 2, none⟩ = some (.int .i64 0) ∧ wr.cell? ⟨w.heap.size + 1 + 1, 3, none⟩ = some (.int .i64 0) ∧ wr.cell? ⟨w.heap.size + 1 + 1, 4, none⟩ = some (.int .i64 0) ∧ wr.cell? ⟨w.heap.size + 1 + 1, 5, none⟩ = some (.int .i64 0) ∧ wr.frozen? ⟨w.heap.size + 1 + 1, 0, none⟩ = false ∧ wr.frozen? ⟨w.heap.size + 1 + 1, 1, none⟩ = false ∧ wr.frozen? ⟨w.heap.size + 1 + 1, 2, none⟩ = false ∧ wr.frozen? ⟨w.heap.size + 1 + 1, 3, none⟩ = false ∧ wr.frozen? ⟨w.heap.size + 1 + 1, 4, none⟩ = false ∧ wr.frozen? ⟨w.heap.size + 1 + 1, 5, none⟩ = false) (fun i _ => 3 - (intOf i).toNat)
  case atStart => exact ⟨0, by omega, rfl, (fun i hi => absurd hi (Nat.not_lt_zero i) : ∀ i, i < 0 → litB r l i = true), by (repeat first | (with_reducible assumption) | (with_reducible exact Below.refl _ _) | ((with_reducible refine bl_alloc _ ?_ ?_); focus (first | (simp; done) | (simp; omega) | omega)) | ((with_reducible refine bl_set _ ?_ ?_); focus (first | (simp; done) | (simp; omega) | omega)) | (with_reducible refine Below.drew ?_) | (with_reducible refine bl_drewN _ ?_)), by rw [show litTo r l 0 0 = r 0 from rfl]; simp [go_sem], by rw [show litTo r l 0 1 = r 1 from rfl]; simp [go_sem], by rw [show litTo r l 0 2 = r 2 from rfl]; simp [go_sem], by rw [show litTo r l 0 3 = r 3 from rfl]; simp [go_sem], by rw [show litTo r l 0 4 = r 4 from rfl]; simp [go_sem], by rw [show litTo r l 0 5 = r 5 from rfl]; simp [go_sem], by simp [go_sem], by simp [go_sem], by simp [go_sem], by simp [go_sem], by simp [go_sem], by simp [go_sem], by simp [go_sem], by simp [go_sem], by simp [go_sem], by simp [go_sem], by simp [go_sem], by simp [go_sem], by simp [go_sem], by simp [go_sem], by simp [go_sem], by simp [go_sem], by simp [go_sem], by simp [go_sem]⟩
  case round =>
    obtain ⟨j, hj, rfl, HP, hB, c0, c1, c2, c3, c4, c5, f3, f4, f5, m0, m1, m2, q0, q1, q2, q3, q4, q5, p0, p1, p2, p3, p4, p5⟩ := hrel
    obtain rfl | rfl | rfl | rfl : j = 0 ∨ j = 1 ∨ j = 2 ∨ j = 3 := by omega
    · rw [show litTo r l 0 0 = r 0 from rfl] at c0
      rw [show litTo r l 0 1 = r 1 from rfl] at c1
      rw [show litTo r l 0 2 = r 2 from rfl] at c2
      rw [show litTo r l 0 3 = r 3 from rfl] at c3
      rw [show litTo r l 0 4 = r 4 from rfl] at c4
      rw [show litTo r l 0 5 = r 5 from rfl] at c5
      cases a : inB 0 2 (l 0)
      · have N0 : litB r l 0 = false := by simp [litB, a]
        have N : Hid (litB r l 0 = false) := N0
        clear N0
        go_wp2_with (first | (go_quiet ((first | (go_at_call 47; first | exact quiet_left (l1In_any _ _ _ _) | exact quiet_add_left (l1In_any _ _ _ _))))) | (go_at_call 47; refine (l1In_any _ _ _ _).mono ?_; rintro e w' ⟨rfl, rfl⟩) | (go_region))
        refine bodyPost_ret (v := .tuple #[A6 (opt (litTo r l 3) (litsB r l)), .bool (litsB r l)]) (by simp [results, Try.results60, go_sem, opt, lits_no (by omega) N.out, q0, q1, q2, q3, q4, q5]) rfl ⟨rfl, by (repeat first | (with_reducible assumption) | (with_reducible exact Below.refl _ _) | ((with_reducible refine bl_alloc _ ?_ ?_); focus (first | (simp; done) | (simp; omega) | omega)) | ((with_reducible refine bl_set _ ?_ ?_); focus (first | (simp; done) | (simp; omega) | omega)) | (with_reducible refine Below.drew ?_) | (with_reducible refine bl_drewN _ ?_))⟩
      · have al := inB_iff.1 a
        obtain ⟨al0, al1⟩ := al
        by_cases b : r 3 + l 0 ≤ 2
        · have b1 : decide (2 < r 3 + l 0) = false := decide_eq_false (by omega)
          by_cases c : r 0 = 0
          · have c9 : (r 0 == 0) = true := by simp [c]
            by_cases d : l 0 = 0
            · have d1 : decide (0 < l 0) = false := by simp [d]
              have Y0 : litB r l 0 = true := by unfold litB; rw [a, decide_eq_true (show r (3 + 0) + l 0 ≤ 2 from b), decide_eq_false (show ¬ 0 < l 0 by omega)]; simp
              have Y : Hid (litB r l 0 = true) := Y0
              clear Y0 c d
              go_wp2_with (first | (go_quiet ((first | (go_at_call 47; first | exact quiet_left (l1In_any _ _ _ _) | exact quiet_add_left (l1In_any _ _ _ _))))) | (go_at_call 47; refine (l1In_any _ _ _ _).mono ?_; rintro e w' ⟨rfl, rfl⟩) | (go_region))
              go_roundw
              case rel => exact ⟨0 + 1, by omega, by go_num, lits_more HP.out Y.out, by (repeat first | (with_reducible assumption) | (with_reducible exact Below.refl _ _) | ((with_reducible refine bl_alloc _ ?_ ?_); focus (first | (simp; done) | (simp; omega) | omega)) | ((with_reducible refine bl_set _ ?_ ?_); focus (first | (simp; done) | (simp; omega) | omega)) | (with_reducible refine Below.drew ?_) | (with_reducible refine bl_drewN _ ?_)), by rw [show litTo r l (0 + 1) 0 = r 0 from rfl]; simp [go_sem, c0], by rw [show litTo r l (0 + 1) 1 = r 1 from rfl]; simp [go_sem, c1], by rw [show litTo r l (0 + 1) 2 = r 2 from rfl]; simp [go_sem, c2], by rw [show litTo r l (0 + 1) 3 = r 3 + l 0 from rfl]; simp [go_sem, c3], by rw [show litTo r l (0 + 1) 4 = r 4 from rfl]; simp [go_sem, c4], by rw [show litTo r l (0 + 1) 5 = r 5 from rfl]; simp [go_sem, c5], by simp [go_sem, f3], by simp [go_sem, f4], by simp [go_sem, f5], by simp [go_sem, m0], by simp [go_sem, m1], by simp [go_sem, m2], by simp [go_sem, q0], by simp [go_sem, q1], by simp [go_sem, q2], by simp [go_sem, q3], by simp [go_sem, q4], by simp [go_sem, q5], by simp [go_sem, p0], by simp [go_sem, p1], by simp [go_sem, p2], by simp [go_sem, p3], by simp [go_sem, p4], by simp [go_sem, p5]⟩
              case measure => simp [intOf]
            · have d1 : decide (0 < l 0) = true := by simp; omega
              have N0 : litB r l 0 = false := by simp [litB, a, c]; omega
              have N : Hid (litB r l 0 = false) := N0
              clear N0 c d
              go_wp2_with (first | (go_quiet ((first | (go_at_call 47; first | exact quiet_left (l1In_any _ _ _ _) | exact quiet_add_left (l1In_any _ _ _ _))))) | (go_at_call 47; refine (l1In_any _ _ _ _).mono ?_; rintro e w' ⟨rfl, rfl⟩) | (go_region))
              refine bodyPost_ret (v := .tuple #[A6 (opt (litTo r l 3) (litsB r l)), .bool (litsB r l)]) (by simp [results, Try.results60, go_sem, opt, lits_no (by omega) N.out, q0, q1, q2, q3, q4, q5]) rfl ⟨rfl, by (repeat first | (with_reducible assumption) | (with_reducible exact Below.refl _ _) | ((with_reducible refine bl_alloc _ ?_ ?_); focus (first | (simp; done) | (simp; omega) | omega)) | ((with_reducible refine bl_set _ ?_ ?_); focus (first | (simp; done) | (simp; omega) | omega)) | (with_reducible refine Below.drew ?_) | (with_reducible refine bl_drewN _ ?_))⟩
          · have c9 : (r 0 == 0) = false := by simp [c]
            have Y0 : litB r l 0 = true := by simp [litB, a, c]; exact b
            have Y : Hid (litB r l 0 = true) := Y0
            clear Y0 c
            go_wp2_with (first | (go_quiet ((first | (go_at_call 47; first | exact quiet_left (l1In_any _ _ _ _) | exact quiet_add_left (l1In_any _ _ _ _))))) | (go_at_call 47; refine (l1In_any _ _ _ _).mono ?_; rintro e w' ⟨rfl, rfl⟩) | (go_region))
            go_roundw
            case rel => exact ⟨0 + 1, by omega, by go_num, lits_more HP.out Y.out, by (repeat first | (with_reducible assumption) | (with_reducible exact Below.refl _ _) | ((with_reducible refine bl_alloc _ ?_ ?_); focus (first | (simp; done) | (simp; omega) | omega)) | ((with_reducible refine bl_set _ ?_ ?_); focus (first | (simp; done) | (simp; omega) | omega)) | (with_reducible refine Below.drew ?_) | (with_reducible refine bl_drewN _ ?_)), by rw [show litTo r l (0 + 1) 0 = r 0 from rfl]; simp [go_sem, c0], by rw [show litTo r l (0 + 1) 1 = r 1 from rfl]; simp [go_sem, c1], by rw [show litTo r l (0 + 1) 2 = r 2 from rfl]; simp [go_sem, c2], by rw [show litTo r l (0 + 1) 3 = r 3 + l 0 from rfl]; simp [go_sem, c3], by rw [show litTo r l (0 + 1) 4 = r 4 from rfl]; simp [go_sem, c4], by rw [show litTo r l (0 + 1) 5 = r 5 from rfl]; simp [go_sem, c5], by simp [go_sem, f3], by simp [go_sem, f4], by simp [go_sem, f5], by simp [go_sem, m0], by simp [go_sem, m1], by simp [go_sem, m2], by simp [go_sem, q0], by simp [go_sem, q1], by simp [go_sem, q2], by simp [go_sem, q3], by simp [go_sem, q4], by simp [go_sem, q5], by simp [go_sem, p0], by simp [go_sem, p1], by simp [go_sem, p2], by simp [go_sem, p3], by simp [go_sem, p4], by simp [go_sem, p5]⟩
            case measure => simp [intOf]
        · have b1 : decide (2 < r 3 + l 0) = true := decide_eq_true (by omega)
          have N0 : litB r l 0 = false := by simp [litB, a]; intro h; exact absurd h b
          have N : Hid (litB r l 0 = false) := N0
          clear N0
          cases c : (r 0 == 0) <;> cases d : decide (0 < l 0)
          all_goals
            go_wp2_with (first | (go_quiet ((first | (go_at_call 47; first | exact quiet_left (l1In_any _ _ _ _) | exact quiet_add_left (l1In_any _ _ _ _))))) | (go_at_call 47; refine (l1In_any _ _ _ _).mono ?_; rintro e w' ⟨rfl, rfl⟩) | (go_region))
            refine bodyPost_ret (v := .tuple #[A6 (opt (litTo r l 3) (litsB r l)), .bool (litsB r l)]) (by simp [results, Try.results60, go_sem, opt, lits_no (by omega) N.out, q0, q1, q2, q3, q4, q5]) rfl ⟨rfl, by (repeat first | (with_reducible assumption) | (with_reducible exact Below.refl _ _) | ((with_reducible refine bl_alloc _ ?_ ?_); focus (first | (simp; done) | (simp; omega) | omega)) | ((with_reducible refine bl_set _ ?_ ?_); focus (first | (simp; done) | (simp; omega) | omega)) | (with_reducible refine Below.drew ?_) | (with_reducible refine bl_drewN _ ?_))⟩
    · rw [show litTo r l 1 0 = r 0 from rfl] at c0
      rw [show litTo r l 1 1 = r 1 from rfl] at c1
      rw [show litTo r l 1 2 = r 2 from rfl] at c2
      rw [show litTo r l 1 3 = r 3 + l 0 from rfl] at c3
      rw [show litTo r l 1 4 = r 4 from rfl] at c4
      rw [show litTo r l 1 5 = r 5 from rfl] at c5
      cases a : inB 0 2 (l 1)
      · have N0 : litB r l 1 = false := by simp [litB, a]
        have N : Hid (litB r l 1 = false) := N0
        clear N0
        go_wp2_with (first | (go_quiet ((first | (go_at_call 47; first | exact quiet_left (l1In_any _ _ _ _) | exact quiet_add_left (l1In_any _ _ _ _))))) | (go_at_call 47; refine (l1In_any _ _ _ _).mono ?_; rintro e w' ⟨rfl, rfl⟩) | (go_region))
        refine bodyPost_ret (v := .tuple #[A6 (opt (litTo r l 3) (litsB r l)), .bool (litsB r l)]) (by simp [results, Try.results60, go_sem, opt, lits_no (by omega) N.out, q0, q1, q2, q3, q4, q5]) rfl ⟨rfl, by (repeat first | (with_reducible assumption) | (with_reducible exact Below.refl _ _) | ((with_reducible refine bl_alloc _ ?_ ?_); focus (first | (simp; done) | (simp; omega) | omega)) | ((with_reducible refine bl_set _ ?_ ?_); focus (first | (simp; done) | (simp; omega) | omega)) | (with_reducible refine Below.drew ?_) | (with_reducible refine bl_drewN _ ?_))⟩
      · have al := inB_iff.1 a
        obtain ⟨al0, al1⟩ := al
        by_cases b : r 4 + l 1 ≤ 2
        · have b1 : decide (2 < r 4 + l 1) = false := decide_eq_false (by omega)
          by_cases c : r 1 = 0
          · have c9 : (r 1 == 0) = true := by simp [c]
            by_cases d : l 1 = 0
            · have d1 : decide (0 < l 1) = false := by simp [d]
              have Y0 : litB r l 1 = true := by unfold litB; rw [a, decide_eq_true (show r (3 + 1) + l 1 ≤ 2 from b), decide_eq_false (show ¬ 0 < l 1 by omega)]; simp
              have Y : Hid (litB r l 1 = true) := Y0
              clear Y0 c d
              go_wp2_with (first | (go_quiet ((first | (go_at_call 47; first | exact quiet_left (l1In_any _ _ _ _) | exact quiet_add_left (l1In_any _ _ _ _))))) | (go_at_call 47; refine (l1In_any _ _ _ _).mono ?_; rintro e w' ⟨rfl, rfl⟩) | (go_region))
              go_roundw
              case rel => exact ⟨1 + 1, by omega, by go_num, lits_more HP.out Y.out, by (repeat first | (with_reducible assumption) | (with_reducible exact Below.refl _ _) | ((with_reducible refine bl_alloc _ ?_ ?_); focus (first | (simp; done) | (simp; omega) | omega)) | ((with_reducible refine bl_set _ ?_ ?_); focus (first | (simp; done) | (simp; omega) | omega)) | (with_reducible refine Below.drew ?_) | (with_reducible refine bl_drewN _ ?_)), by rw [show litTo r l (1 + 1) 0 = r 0 from rfl]; simp [go_sem, c0], by rw [show litTo r l (1 + 1) 1 = r 1 from rfl]; simp [go_sem, c1], by rw [show litTo r l (1 + 1) 2 = r 2 from rfl]; simp [go_sem, c2], by rw [show litTo r l (1 + 1) 3 = r 3 + l 0 from rfl]; simp [go_sem, c3], by rw [show litTo r l (1 + 1) 4 = r 4 + l 1 from rfl]; simp [go_sem, c4], by rw [show litTo r l (1 + 1) 5 = r 5 from rfl]; simp [go_sem, c5], by simp [go_sem, f3], by simp [go_sem, f4], by simp [go_sem, f5], by simp [go_sem, m0], by simp [go_sem, m1], by simp [go_sem, m2], by simp [go_sem, q0], by simp [go_sem, q1], by simp [go_sem, q2], by simp [go_sem, q3], by simp [go_sem, q4], by simp [go_sem, q5], by simp [go_sem, p0], by simp [go_sem, p1], by simp [go_sem, p2], by simp [go_sem, p3], by simp [go_sem, p4], by simp [go_sem, p5]⟩
              case measure => simp [intOf]
            · have d1 : decide (0 < l 1) = true := by simp; omega
              have N0 : litB r l 1 = false := by simp [litB, a, c]; omega
              have N : Hid (litB r l 1 = false) := N0
              clear N0 c d
              go_wp2_with (first | (go_quiet ((first | (go_at_call 47; first | exact quiet_left (l1In_any _ _ _ _) | exact quiet_add_left (l1In_any _ _ _ _))))) | (go_at_call 47; refine (l1In_any _ _ _ _).mono ?_; rintro e w' ⟨rfl, rfl⟩) | (go_region))
              refine bodyPost_ret (v := .tuple #[A6 (opt (litTo r l 3) (litsB r l)), .bool (litsB r l)]) (by simp [results, Try.results60, go_sem, opt, lits_no (by omega) N.out, q0, q1, q2, q3, q4, q5]) rfl ⟨rfl, by (repeat first | (with_reducible assumption) | (with_reducible exact Below.refl _ _) | ((with_reducible refine bl_alloc _ ?_ ?_); focus (first | (simp; done) | (simp; omega) | omega)) | ((with_reducible refine bl_set _ ?_ ?_); focus (first | (simp; done) | (simp; omega) | omega)) | (with_reducible refine Below.drew ?_) | (with_reducible refine bl_drewN _ ?_))⟩
          · have c9 : (r 1 == 0) = false := by simp [c]
            have Y0 : litB r l 1 = true := by simp [litB, a, c]; exact b
            have Y : Hid (litB r l 1 = true) := Y0
            clear Y0 c
            go_wp2_with (first | (go_quiet ((first | (go_at_call 47; first | exact quiet_left (l1In_any _ _ _ _) | exact quiet_add_left (l1In_any _ _ _ _))))) | (go_at_call 47; refine (l1In_any _ _ _ _).mono ?_; rintro e w' ⟨rfl, rfl⟩) | (go_region))
            go_roundw
            case rel => exact ⟨1 + 1, by omega, by go_num, lits_more HP.out Y.out, by (repeat first | (with_reducible assumption) | (with_reducible exact Below.refl _ _) | ((with_reducible refine bl_alloc _ ?_ ?_); focus (first | (simp; done) | (simp; omega) | omega)) | ((with_reducible refine bl_set _ ?_ ?_); focus (first | (simp; done) | (simp; omega) | omega)) | (with_reducible refine Below.drew ?_) | (with_reducible refine bl_drewN _ ?_)), by rw [show litTo r l (1 + 1) 0 = r 0 from rfl]; simp [go_sem, c0], by rw [show litTo r l (1 + 1) 1 = r 1 from rfl]; simp [go_sem, c1], by rw [show litTo r l (1 + 1) 2 = r 2 from rfl]; simp [go_sem, c2], by rw [show litTo r l (1 + 1) 3 = r 3 + l 0 from rfl]; simp [go_sem, c3], by rw [show litTo r l (1 + 1) 4 = r 4 + l 1 from rfl]; simp [go_sem, c4], by rw [show litTo r l (1 + 1) 5 = r 5 from rfl]; simp [go_sem, c5], by simp [go_sem, f3], by simp [go_sem, f4], by simp [go_sem, f5], by simp [go_sem, m0], by simp [go_sem, m1], by simp [go_sem, m2], by simp [go_sem, q0], by simp [go_sem, q1], by simp [go_sem, q2], by simp [go_sem, q3], by simp [go_sem, q4], by simp [go_sem, q5], by simp [go_sem, p0], by simp [go_sem, p1], by simp [go_sem, p2], by simp [go_sem, p3], by simp [go_sem, p4], by simp [go_sem, p5]⟩
            case measure => simp [intOf]
        · have b1 : decide (2 < r 4 + l 1) = true := decide_eq_true (by omega)
          have N0 : litB r l 1 = false := by simp [litB, a]; intro h; exact absurd h b
          have N : Hid (litB r l 1 = false) := N0
          clear N0
          cases c : (r 1 == 0) <;> cases d : decide (0 < l 1)
          all_goals
            go_wp2_with (first | (go_quiet ((first | (go_at_call 47; first | exact quiet_left (l1In_any _ _ _ _) | exact quiet_add_left (l1In_any _ _ _ _))))) | (go_at_call 47; refine (l1In_any _ _ _ _).mono ?_; rintro e w' ⟨rfl, rfl⟩) | (go_region))
            refine bodyPost_ret (v := .tuple #[A6 (opt (litTo r l 3) (litsB r l)), .bool (litsB r l)]) (by simp [results, Try.results60, go_sem, opt, lits_no (by omega) N.out, q0, q1, q2, q3, q4, q5]) rfl ⟨rfl, by (repeat first | (with_reducible assumption) | (with_reducible exact Below.refl _ _) | ((with_reducible refine bl_alloc _ ?_ ?_); focus (first | (simp; done) | (simp; omega) | omega)) | ((with_reducible refine bl_set _ ?_ ?_); focus (first | (simp; done) | (simp; omega) | omega)) | (with_reducible refine Below.drew ?_) | (with_reducible refine bl_drewN _ ?_))⟩
    · rw [show litTo r l 2 0 = r 0 from rfl] at c0
      rw [show litTo r l 2 1 = r 1 from rfl] at c1
      rw [show litTo r l 2 2 = r 2 from rfl] at c2
      rw [show litTo r l 2 3 = r 3 + l 0 from rfl] at c3
      rw [show litTo r l 2 4 = r 4 + l 1 from rfl] at c4
      rw [show litTo r l 2 5 = r 5 from rfl] at c5
      cases a : inB 0 2 (l 2)
      · have N0 : litB r l 2 = false := by simp [litB, a]
        have N : Hid (litB r l 2 = false) := N0
        clear N0
        go_wp2_with (first | (go_quiet ((first | (go_at_call 47; first | exact quiet_left (l1In_any _ _ _ _) | exact quiet_add_left (l1In_any _ _ _ _))))) | (go_at_call 47; refine (l1In_any _ _ _ _).mono ?_; rintro e w' ⟨rfl, rfl⟩) | (go_region))
        refine bodyPost_ret (v := .tuple #[A6 (opt (litTo r l 3) (litsB r l)), .bool (litsB r l)]) (by simp [results, Try.results60, go_sem, opt, lits_no (by omega) N.out, q0, q1, q2, q3, q4, q5]) rfl ⟨rfl, by (repeat first | (with_reducible assumption) | (with_reducible exact Below.refl _ _) | ((with_reducible refine bl_alloc _ ?_ ?_); focus (first | (simp; done) | (simp; omega) | omega)) | ((with_reducible refine bl_set _ ?_ ?_); focus (first | (simp; done) | (simp; omega) | omega)) | (with_reducible refine Below.drew ?_) | (with_reducible refine bl_drewN _ ?_))⟩
      · have al := inB_iff.1 a
        obtain ⟨al0, al1⟩ := al
        by_cases b : r 5 + l 2 ≤ 2
        · have b1 : decide (2 < r 5 + l 2) = false := decide_eq_false (by omega)
          by_cases c : r 2 = 0
          · have c9 : (r 2 == 0) = true := by simp [c]
            by_cases d : l 2 = 0
            · have d1 : decide (0 < l 2) = false := by simp [d]
              have Y0 : litB r l 2 = true := by unfold litB; rw [a, decide_eq_true (show r (3 + 2) + l 2 ≤ 2 from b), decide_eq_false (show ¬ 0 < l 2 by omega)]; simp
              have Y : Hid (litB r l 2 = true) := Y0
              clear Y0 c d
              go_wp2_with (first | (go_quiet ((first | (go_at_call 47; first | exact quiet_left (l1In_any _ _ _ _) | exact quiet_add_left (l1In_any _ _ _ _))))) | (go_at_call 47; refine (l1In_any _ _ _ _).mono ?_; rintro e w' ⟨rfl, rfl⟩) | (go_region))
              go_roundw
              case rel => exact ⟨2 + 1, by omega, by go_num, lits_more HP.out Y.out, by (repeat first | (with_reducible assumption) | (with_reducible exact Below.refl _ _) | ((with_reducible refine bl_alloc _ ?_ ?_); focus (first | (simp; done) | (simp; omega) | omega)) | ((with_reducible refine bl_set _ ?_ ?_); focus (first | (simp; done) | (simp; omega) | omega)) | (with_reducible refine Below.drew ?_) | (with_reducible refine bl_drewN _ ?_)), by rw [show litTo r l (2 + 1) 0 = r 0 from rfl]; simp [go_sem, c0], by rw [show litTo r l (2 + 1) 1 = r 1 from rfl]; simp [go_sem, c1], by rw [show litTo r l (2 + 1) 2 = r 2 from rfl]; simp [go_sem, c2], by rw [show litTo r l (2 + 1) 3 = r 3 + l 0 from rfl]; simp [go_sem, c3], by rw [show litTo r l (2 + 1) 4 = r 4 + l 1 from rfl]; simp [go_sem, c4], by rw [show litTo r l (2 + 1) 5 = r 5 + l 2 from rfl]; simp [go_sem, c5], by simp [go_sem, f3], by simp [go_sem, f4], by simp [go_sem, f5], by simp [go_sem, m0], by simp [go_sem, m1], by simp [go_sem, m2], by simp [go_sem, q0], by simp [go_sem, q1], by simp [go_sem, q2], by simp [go_sem, q3], by simp [go_sem, q4], by simp [go_sem, q5], by simp [go_sem, p0], by simp [go_sem, p1], by simp [go_sem, p2], by simp [go_sem, p3], by simp [go_sem, p4], by simp [go_sem, p5]⟩
              case measure => simp [intOf]
            · have d1 : decide (0 < l 2) = true := by simp; omega
              have N0 : litB r l 2 = false := by simp [litB, a, c]; omega
              have N : Hid (litB r l 2 = false) := N0
              clear N0 c d
              go_wp2_with (first | (go_quiet ((first | (go_at_call 47; first | exact quiet_left (l1In_any _ _ _ _) | exact quiet_add_left (l1In_any _ _ _ _))))) | (go_at_call 47; refine (l1In_any _ _ _ _).mono ?_; rintro e w' ⟨rfl, rfl⟩) | (go_region))
              refine bodyPost_ret (v := .tuple #[A6 (opt (litTo r l 3) (litsB r l)), .bool (litsB r l)]) (by simp [results, Try.results60, go_sem, opt, lits_no (by omega) N.out, q0, q1, q2, q3, q4, q5]) rfl ⟨rfl, by (repeat first | (with_reducible assumption) | (with_reducible exact Below.refl _ _) | ((with_reducible refine bl_alloc _ ?_ ?_); focus (first | (simp; done) | (simp; omega) | omega)) | ((with_reducible refine bl_set _ ?_ ?_); focus (first | (simp; done) | (simp; omega) | omega)) | (with_reducible refine Below.drew ?_) | (with_reducible refine bl_drewN _ ?_))⟩
          · have c9 : (r 2 == 0) = false := by simp [c]
            have Y0 : litB r l 2 = true := by simp [litB, a, c]; exact b
            have Y : Hid (litB r l 2 = true) := Y0
            clear Y0 c
            go_wp2_with (first | (go_quiet ((first | (go_at_call 47; first | exact quiet_left (l1In_any _ _ _ _) | exact quiet_add_left (l1In_any _ _ _ _))))) | (go_at_call 47; refine (l1In_any _ _ _ _).mono ?_; rintro e w' ⟨rfl, rfl⟩) | (go_region))
            go_roundw
            case rel => exact ⟨2 + 1, by omega, by go_num, lits_more HP.out Y.out, by (repeat first | (with_reducible assumption) | (with_reducible exact Below.refl _ _) | ((with_reducible refine bl_alloc _ ?_ ?_); focus (first | (simp; done) | (simp; omega) | omega)) | ((with_reducible refine bl_set _ ?_ ?_); focus (first | (simp; done) | (simp; omega) | omega)) | (with_reducible refine Below.drew ?_) | (with_reducible refine bl_drewN _ ?_)), by rw [show litTo r l (2 + 1) 0 = r 0 from rfl]; simp [go_sem, c0], by rw [show litTo r l (2 + 1) 1 = r 1 from rfl]; simp [go_sem, c1], by rw [show litTo r l (2 + 1) 2 = r 2 from rfl]; simp [go_sem, c2], by rw [show litTo r l (2 + 1) 3 = r 3 + l 0 from rfl]; simp [go_sem, c3], by rw [show litTo r l (2 + 1) 4 = r 4 + l 1 from rfl]; simp [go_sem, c4], by rw [show litTo r l (2 + 1) 5 = r 5 + l 2 from rfl]; simp [go_sem, c5], by simp [go_sem, f3], by simp [go_sem, f4], by simp [go_sem, f5], by simp [go_sem, m0], by simp [go_sem, m1], by simp [go_sem, m2], by simp [go_sem, q0], by simp [go_sem, q1], by simp [go_sem, q2], by simp [go_sem, q3], by simp [go_sem, q4], by simp [go_sem, q5], by simp [go_sem, p0], by simp [go_sem, p1], by simp [go_sem, p2], by simp [go_sem, p3], by simp [go_sem, p4], by simp [go_sem, p5]⟩
            case measure => simp [intOf]
        · have b1 : decide (2 < r 5 + l 2) = true := decide_eq_true (by omega)
          have N0 : litB r l 2 = false := by simp [litB, a]; intro h; exact absurd h b
          have N : Hid (litB r l 2 = false) := N0
          clear N0
          cases c : (r 2 == 0) <;> cases d : decide (0 < l 2)
          all_goals
            go_wp2_with (first | (go_quiet ((first | (go_at_call 47; first | exact quiet_left (l1In_any _ _ _ _) | exact quiet_add_left (l1In_any _ _ _ _))))) | (go_at_call 47; refine (l1In_any _ _ _ _).mono ?_; rintro e w' ⟨rfl, rfl⟩) | (go_region))
            refine bodyPost_ret (v := .tuple #[A6 (opt (litTo r l 3) (litsB r l)), .bool (litsB r l)]) (by simp [results, Try.results60, go_sem, opt, lits_no (by omega) N.out, q0, q1, q2, q3, q4, q5]) rfl ⟨rfl, by (repeat first | (with_reducible assumption) | (with_reducible exact Below.refl _ _) | ((with_reducible refine bl_alloc _ ?_ ?_); focus (first | (simp; done) | (simp; omega) | omega)) | ((with_reducible refine bl_set _ ?_ ?_); focus (first | (simp; done) | (simp; omega) | omega)) | (with_reducible refine Below.drew ?_) | (with_reducible refine bl_drewN _ ?_))⟩
    · rw [show litTo r l 3 0 = r 0 from rfl] at c0
      rw [show litTo r l 3 1 = r 1 from rfl] at c1
      rw [show litTo r l 3 2 = r 2 from rfl] at c2
      rw [show litTo r l 3 3 = r 3 + l 0 from rfl] at c3
      rw [show litTo r l 3 4 = r 4 + l 1 from rfl] at c4
      rw [show litTo r l 3 5 = r 5 + l 2 from rfl] at c5
      have V : litsB r l = true := lits_yes HP.out
      go_wp2_with fail
      refine bodyPost_ret (v := .tuple #[A6 (opt (litTo r l 3) (litsB r l)), .bool (litsB r l)]) (by simp [results, Try.results60, go_sem, opt, litTo, *]) rfl ⟨rfl, by (repeat first | (with_reducible assumption) | (with_reducible exact Below.refl _ _) | ((with_reducible refine bl_alloc _ ?_ ?_); focus (first | (simp; done) | (simp; omega) | omega)) | ((with_reducible refine bl_set _ ?_ ?_); focus (first | (simp; done) | (simp; omega) | omega)) | (with_reducible refine Below.drew ?_) | (with_reducible refine bl_drewN _ ?_))⟩

end Go.Proofs.Ytgfiggmkncafiaa
