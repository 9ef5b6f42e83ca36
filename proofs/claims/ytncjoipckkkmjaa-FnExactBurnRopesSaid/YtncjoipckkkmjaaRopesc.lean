/- Contracts: how long a burning takes, when the next rope goes out. No statement of the seat is proved here. -/
import Derived.Test.YtncjoipckkkmjaaRopesb
namespace Go.Proofs.Ytncjoipckkkmjaa
open Go.RowKit
set_option linter.unusedVariables false

set_option maxHeartbeats 1600000 in
theorem halves_any (r : Nat → Int) (hr : Rope r) (w : World) : Calls Try.prog 70 #[A6 r] w fun e w' => e = .returned (.int .i64 (halvesF r)) ∧ Below w.heap.size w w' := by
  have lo0 := hr.lo 0 (by omega)
  have en0 : 0 ≤ r 3 ∧ r 3 ≤ 2 := hr.en 0 (by omega)
  have lo1 := hr.lo 1 (by omega)
  have en1 : 0 ≤ r 4 ∧ r 4 ≤ 2 := hr.en 1 (by omega)
  have lo2 := hr.lo 2 (by omega)
  have en2 : 0 ≤ r 5 ∧ r 5 ≤ 2 := hr.en 2 (by omega)
  obtain ⟨lo00, lo01⟩ := lo0
  obtain ⟨lo10, lo11⟩ := lo1
  obtain ⟨lo20, lo21⟩ := lo2
  obtain ⟨en00, en01⟩ := en0
  obtain ⟨en10, en11⟩ := en1
  obtain ⟨en20, en21⟩ := en2
  have i0 : ∀ w : World, (Instr.index 41 (.agg #[.int .i64 (r 0), .int .i64 (r 1), .int .i64 (r 2)]) (.int .i64 0)).run Try.prog w = .ok (.int .i64 (r 0)) w := fun _ => by kernel_rfl
  have i1 : ∀ w : World, (Instr.index 41 (.agg #[.int .i64 (r 0), .int .i64 (r 1), .int .i64 (r 2)]) (.int .i64 1)).run Try.prog w = .ok (.int .i64 (r 1)) w := fun _ => by kernel_rfl
  have i2 : ∀ w : World, (Instr.index 41 (.agg #[.int .i64 (r 0), .int .i64 (r 1), .int .i64 (r 2)]) (.int .i64 2)).run Try.prog w = .ok (.int .i64 (r 2)) w := fun _ => by kernel_rfl
  clear hr
  go_enter Try.func70, Try.ntmps70
  go_wp2_with fail
  go_loop [3, 9] (fun l i => ∃ j : Nat, j ≤ 3 ∧ i = .int .i64 j ∧ l = .int .i64 (halvesTo r j)) (fun _ i => 3 - (intOf i).toNat)
  case atStart => exact ⟨0, by omega, rfl, rfl⟩
  case round =>
    obtain ⟨j, hj, rfl, rfl⟩ := hrel
    generalize hl : halvesTo r j = l at *
    have HL : Hid (halvesTo r j = l) := hl
    clear hl
    obtain rfl | rfl | rfl | rfl : j = 0 ∨ j = 1 ∨ j = 2 ∨ j = 3 := by omega
    · by_cases p : r 3 = 0
      · have b1 : (r 3 == 0) = true := by simp [p]
        have P : Hid (r 3 = 0) := p
        clear p
        go_wp2
        go_round
        case rel => exact ⟨0 + 1, by omega, by go_num, by rw [halvesTo, HL.out]; unfold hx; rw [if_pos P.out]⟩
        case measure => simp [intOf]
      · have b1 : (r 3 == 0) = false := by simp [p]
        have p1 : 1 ≤ r 3 := by omega
        clear p
        by_cases c1 : l = 0
        · have b2 : (l == 0) = true := by simp [c1]
          have C : Hid (l = 0) := c1
          clear c1
          go_wp2
          go_round
          case rel => exact ⟨0 + 1, by omega, by go_num, by rw [halvesTo, HL.out]; unfold hx; rw [if_neg (show ¬ r (3 + 0) = 0 from by show ¬ r 3 = 0; omega), if_pos (Or.inl C.out)]⟩
          case measure => simp [intOf]
        · have b2 : (l == 0) = false := by simp [c1]
          by_cases c2 : 2 * r 0 / r 3 < l
          · have C : Hid (l = 0 ∨ 2 * r 0 / r (3 + 0) < l) := Or.inr c2
            clear c1
            go_wp2
            go_round
            case rel => exact ⟨0 + 1, by omega, by go_num, by rw [halvesTo, HL.out]; unfold hx; rw [if_neg (show ¬ r (3 + 0) = 0 from by show ¬ r 3 = 0; omega), if_pos C.out]⟩
            case measure => simp [intOf]
          · have C : Hid (¬ (l = 0 ∨ 2 * r 0 / r (3 + 0) < l)) := fun h => h.elim c1 c2
            clear c1
            go_wp2
            go_round
            case rel => exact ⟨0 + 1, by omega, by go_num, by rw [halvesTo, HL.out]; unfold hx; rw [if_neg (show ¬ r (3 + 0) = 0 from by show ¬ r 3 = 0; omega), if_neg C.out]⟩
            case measure => simp [intOf]
    · by_cases p : r 4 = 0
      · have b1 : (r 4 == 0) = true := by simp [p]
        have P : Hid (r 4 = 0) := p
        clear p
        go_wp2
        go_round
        case rel => exact ⟨1 + 1, by omega, by go_num, by rw [halvesTo, HL.out]; unfold hx; rw [if_pos P.out]⟩
        case measure => simp [intOf]
      · have b1 : (r 4 == 0) = false := by simp [p]
        have p1 : 1 ≤ r 4 := by omega
        clear p
        by_cases c1 : l = 0
        · have b2 : (l == 0) = true := by simp [c1]
          have C : Hid (l = 0) := c1
          clear c1
          go_wp2
          go_round
          case rel => exact ⟨1 + 1, by omega, by go_num, by rw [halvesTo, HL.out]; unfold hx; rw [if_neg (show ¬ r (3 + 1) = 0 from by show ¬ r 4 = 0; omega), if_pos (Or.inl C.out)]⟩
          case measure => simp [intOf]
        · have b2 : (l == 0) = false := by simp [c1]
          by_cases c2 : 2 * r 1 / r 4 < l
          · have C : Hid (l = 0 ∨ 2 * r 1 / r (3 + 1) < l) := Or.inr c2
            clear c1
            go_wp2
            go_round
            case rel => exact ⟨1 + 1, by omega, by go_num, by rw [halvesTo, HL.out]; unfold hx; rw [if_neg (show ¬ r (3 + 1) = 0 from by show ¬ r 4 = 0; omega), if_pos C.out]⟩
            case measure => simp [intOf]
          · have C : Hid (¬ (l = 0 ∨ 2 * r 1 / r (3 + 1) < l)) := fun h => h.elim c1 c2
            clear c1
            go_wp2
            go_round
            case rel => exact ⟨1 + 1, by omega, by go_num, by rw [halvesTo, HL.out]; unfold hx; rw [if_neg (show ¬ r (3 + 1) = 0 from by show ¬ r 4 = 0; omega), if_neg C.out]⟩
            case measure => simp [intOf]
    · by_cases p : r 5 = 0
      · have b1 : (r 5 == 0) = true := by simp [p]
        have P : Hid (r 5 = 0) := p
        clear p
        go_wp2
        go_round
        case rel => exact ⟨2 + 1, by omega, by go_num, by rw [halvesTo, HL.out]; unfold hx; rw [if_pos P.out]⟩
        case measure => simp [intOf]
      · have b1 : (r 5 == 0) = false := by simp [p]
        have p1 : 1 ≤ r 5 := by omega
        clear p
        by_cases c1 : l = 0
        · have b2 : (l == 0) = true := by simp [c1]
          have C : Hid (l = 0) := c1
          clear c1
          go_wp2
          go_round
          case rel => exact ⟨2 + 1, by omega, by go_num, by rw [halvesTo, HL.out]; unfold hx; rw [if_neg (show ¬ r (3 + 2) = 0 from by show ¬ r 5 = 0; omega), if_pos (Or.inl C.out)]⟩
          case measure => simp [intOf]
        · have b2 : (l == 0) = false := by simp [c1]
          by_cases c2 : 2 * r 2 / r 5 < l
          · have C : Hid (l = 0 ∨ 2 * r 2 / r (3 + 2) < l) := Or.inr c2
            clear c1
            go_wp2
            go_round
            case rel => exact ⟨2 + 1, by omega, by go_num, by rw [halvesTo, HL.out]; unfold hx; rw [if_neg (show ¬ r (3 + 2) = 0 from by show ¬ r 5 = 0; omega), if_pos C.out]⟩
            case measure => simp [intOf]
          · have C : Hid (¬ (l = 0 ∨ 2 * r 2 / r (3 + 2) < l)) := fun h => h.elim c1 c2
            clear c1
            go_wp2
            go_round
            case rel => exact ⟨2 + 1, by omega, by go_num, by rw [halvesTo, HL.out]; unfold hx; rw [if_neg (show ¬ r (3 + 2) = 0 from by show ¬ r 5 = 0; omega), if_neg C.out]⟩
            case measure => simp [intOf]
    · go_wp2
      go_ret
      exact ⟨ret_int HL.out.symm, by (repeat first | (with_reducible assumption) | (with_reducible exact Below.refl _ _) | ((with_reducible refine bl_alloc _ ?_ ?_); focus (first | (simp; done) | (simp; omega) | omega)) | ((with_reducible refine bl_set _ ?_ ?_); focus (first | (simp; done) | (simp; omega) | omega)) | (with_reducible refine Below.drew ?_) | (with_reducible refine bl_drewN _ ?_))⟩

end Go.Proofs.Ytncjoipckkkmjaa
