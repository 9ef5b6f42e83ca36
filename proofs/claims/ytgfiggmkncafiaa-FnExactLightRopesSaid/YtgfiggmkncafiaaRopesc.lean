/- Contracts: how long a burning takes, when the next rope goes out. No statement of the seat is proved here. -/
import Derived.Test.YtgfiggmkncafiaaRopesb
namespace Go.Proofs.Ytgfiggmkncafiaa
open Go.RowKit
set_option linter.unusedVariables false

set_option maxHeartbeats 1600000 in
theorem halves_any (r : Nat → Int) (hr : Rope r) (w : World) : Calls Try.prog 63 #[A6 r] w fun e w' => e = .returned (.int .i64 (halvesF r)) ∧ Below w.heap.size w w' := by
  have lo0 := hr.lo 0 (by omega)
  have en0 : 0 ≤ r 3 ∧ r 3 ≤ 2 := hr.en 0 (by omega)
  have lo1 := hr.lo 1 (by omega)
  have en1 : 0 ≤ r 4 ∧ r 4 ≤ 2 := hr.en 1 (by omega)
  have lo2 := hr.lo 2 (by omega)
  have en2 : 0 ≤ r 5 ∧ r 5 ≤ 2 := hr.en 2 (by omega)
  obtain ⟨lo00, lo01⟩ := lo0
  obtain ⟨lo10, lo11⟩ := lo1
  obtain ⟨lo20, lo21⟩ := lo2
  obtain ⟨en00, en01⟩ := en0
  obtain ⟨en10, en11⟩ := en1
  obtain ⟨en20, en21⟩ := en2
  have i0 : ∀ w : World, (Instr.index 27 (.agg #[.int .i64 (r 0), .int .i64 (r 1), .int .i64 (r 2)]) (.int .i64 0)).run Try.prog w = .ok (.int .i64 (r 0)) w := fun _ => by kernel_rfl
  have i1 : ∀ w : World, (Instr.index 27 (.agg #[.int .i64 (r 0), .int .i64 (r 1), .int .i64 (r 2)]) (.int .i64 1)).run Try.prog w = .ok (.int .i64 (r 1)) w := fun _ => by kernel_rfl
  have i2 : ∀ w : World, (Instr.index 27 (.agg #[.int .i64 (r 0), .int .i64 (r 1), .int .i64 (r 2)]) (.int .i64 2)).run Try.prog w = .ok (.int .i64 (r 2)) w := fun _ => by kernel_rfl
  clear hr
  go_enter Try.func63, Try.ntmps63
  go_wp2_with fail
  go_loop [3, 9] (fun l i => ∃ j : Nat, j ≤ 3 ∧ i = .int .i64 j ∧ l = .int .i64 (halvesTo r j)) (fun _ i => 3 - (intOf i).toNat)
  case atStart => exact ⟨0, by omega, rfl, rfl⟩
  case round =>
    obtain ⟨j, hj, rfl, rfl⟩ := hrel
    generalize hl : halvesTo r j = l at *
    have HL : Hid (halvesTo r j = l) := hl
    clear hl
    obtain rfl | rfl | rfl | rfl : j = 0 ∨ j = 1 ∨ j = 2 ∨ j = 3 := by omega
    · by_cases p : r 3 = 0
      · have b1 : (r 3 == 0) = true := by simp [p]
        have P : Hid (r 3 = 0) := p
        clear p
        go_wp2
        go_round
        case rel => exact ⟨0 + 1, by omega, by go_num, by rw [halvesTo, HL.out]; unfold hx; rw [if_pos P.out]⟩
        case measure => simp [intOf]
      · have b1 : (r 3 == 0) = false := by simp [p]
        have p1 : 1 ≤ r 3 := by omega
        clear p
        by_cases c1 : l = 0
        · have b2 : (l == 0) = true := by simp [c1]
          have C : Hid (l = 0) := c1
          clear c1
          go_wp2
          go_round
          case rel => exact ⟨0 + 1, by omega, by go_num, by rw [halvesTo, HL.out]; unfold hx; rw [if_neg (show ¬ r (3 + 0) = 0 from by show ¬ r 3 = 0; omega), if_pos (Or.inl C.out)]⟩
          case measure => simp [intOf]
        · have b2 : (l == 0) = false := by simp [c1]
          by_cases c2 : 2 * r 0 / r 3 < l
          · have C : Hid (l = 0 ∨ 2 * r 0 / r (3 + 0) < l) := Or.inr c2
            clear c1
            go_wp2
            go_round
            case rel => exact ⟨0 + 1, by omega, by go_num, by rw [halvesTo, HL.out]; unfold hx; rw [if_neg (show ¬ r (3 + 0) = 0 from by show ¬ r 3 = 0; omega), if_pos C.out]⟩
            case measure => simp [intOf]
          · have C : Hid (¬ (l = 0 ∨ 2 * r 0 / r (3 + 0) < l)) := fun h => h.elim c1 c2
            clear c1
            go_wp2
            go_round
            case rel => exact ⟨0 + 1, by omega, by go_num, by rw [halvesTo, HL.out]; unfold hx; rw [if_neg (show ¬ r (3 + 0) = 0 from by show ¬ r 3 = 0; omega), if_neg C.out]⟩
            case measure => simp [intOf]
    · by_cases p : r 4 = 0
      · have b1 : (r 4 == 0) = true := by simp [p]
        have P : Hid (r 4 = 0) := p
        clear p
        go_wp2
        go_round
        case rel => exact ⟨1 + 1, by omega, by go_num, by rw [halvesTo, HL.out]; unfold hx; rw [if_pos P.out]⟩
        case measure => simp [intOf]
      · have b1 : (r 4 == 0) = false := by simp [p]
        have p1 : 1 ≤ r 4 := by omega
        clear p
        by_cases c1 : l = 0
        · have b2 : (l == 0) = true := by simp [c1]
          have C : Hid (l = 0) := c1
          clear c1
          go_wp2
          go_round
          case rel => exact ⟨1 + 1, by omega, by go_num, by rw [halvesTo, HL.out]; unfold hx; rw [if_neg (show ¬ r (3 + 1) = 0 from by show ¬ r 4 = 0; omega), if_pos (Or.inl C.out)]⟩
          case measure => simp [intOf]
        · have b2 : (l == 0) = false := by simp [c1]
          by_cases c2 : 2 * r 1 / r 4 < l
          · have C : Hid (l = 0 ∨ 2 * r 1 / r (3 + 1) < l) := Or.inr c2
            clear c1
            go_wp2
            go_round
            case rel => exact ⟨1 + 1, by omega, by go_num, by rw [halvesTo, HL.out]; unfold hx; rw [if_neg (show ¬ r (3 + 1) = 0 from by show ¬ r 4 = 0; omega), if_pos C.out]⟩
            case measure => simp [intOf]
          · have C : Hid (¬ (l = 0 ∨ 2 * r 1 / r (3 + 1) < l)) := fun h => h.elim c1 c2
            clear c1
            go_wp2
            go_round
            case rel => exact ⟨1 + 1, by omega, by go_num, by rw [halvesTo, HL.out]; unfold hx; rw [if_neg (show ¬ r (3 + 1) = 0 from by show ¬ r 4 = 0; omega), if_neg C.out]⟩
            case measure => simp [intOf]
    · by_cases p : r 5 = 0
      · have b1 : (r 5 == 0) = true := by simp [p]
        have P : Hid (r 5 = 0) := p
        clear p
        go_wp2
        go_round
        case rel => exact ⟨2 + 1, by omega, by go_num, by rw [halvesTo, HL.out]; unfold hx; rw [if_pos P.out]⟩
        case measure => simp [intOf]
      · have b1 : (r 5 == 0) = false := by simp [p]
        have p1 : 1 ≤ r 5 := by omega
        clear p
        by_cases c1 : l = 0
        · have b2 : (l == 0) = true := by simp [c1]
          have C : Hid (l = 0) := c1
          clear c1
          go_wp2
          go_round
          case rel => exact ⟨2 + 1, by omega, by go_num, by rw [halvesTo, HL.out]; unfold hx; rw [if_neg (show ¬ r (3 + 2) = 0 from by show ¬ r 5 = 0; omega), if_pos (Or.inl C.out)]⟩
          case measure => simp [intOf]
        · have b2 : (l == 0) = false := by simp [c1]
          by_cases c2 : 2 * r 2 / r 5 < l
          · have C : Hid (l = 0 ∨ 2 * r 2 / r (3 + 2) < l) := Or.inr c2
            clear c1
            go_wp2
            go_round
            case rel => exact ⟨2 + 1, by omega, by go_num, by rw [halvesTo, HL.out]; unfold hx; rw [if_neg (show ¬ r (3 + 2) = 0 from by show ¬ r 5 = 0; omega), if_pos C.out]⟩
            case measure => simp [intOf]
          · have C : Hid (¬ (l = 0 ∨ 2 * r 2 / r (3 + 2) < l)) := fun h => h.elim c1 c2
            clear c1
            go_wp2
            go_round
            case rel => exact ⟨2 + 1, by omega, by go_num, by rw [halvesTo, HL.out]; unfold hx; rw [if_neg (show ¬ r (3 + 2) = 0 from by show ¬ r 5 = 0; omega), if_neg C.out]⟩
            case measure => simp [intOf]
    · go_wp2
      go_ret
      exact ⟨ret_int HL.out.symm, by (repeat first | (with_reducible assumption) | (with_reducible exact Below.refl _ _) | ((with_reducible refine bl_alloc _ ?_ ?_); focus (first | (simp; done) | (simp; omega) | omega)) | ((with_reducible refine bl_set _ ?_ ?_); focus (first | (simp; done) | (simp; omega) | omega)) | (with_reducible refine Below.drew ?_) | (with_reducible refine bl_drewN _ ?_))⟩

theorem told_any (r : Nat → Int) (hr : Rope r) (w : World) : Calls Try.prog 59 #[A6 r] w fun e w' => e = .returned (.int .i64 (toldF r)) ∧ Below w.heap.size w w' := by
  have hb := hr.halves
  obtain ⟨hb0, hb1⟩ := hb
  cases z : (halvesF r % 2 == 0)
  all_goals
    have Z := z
    have ZH : Hid ((halvesF r % 2 == 0) = _) := Z
    clear Z
    go_enter Try.func59, Try.ntmps59
    go_wp2_with (first | (go_at_call 63; refine (halves_any r hr _).mono ?_; rintro e w' ⟨rfl, hb⟩; have hB : Below w.heap.size w w' := Below.trans (by (repeat first | (with_reducible assumption) | (with_reducible exact Below.refl _ _) | ((with_reducible refine bl_alloc _ ?_ ?_); focus (first | (simp; done) | (simp; omega) | omega)) | ((with_reducible refine bl_set _ ?_ ?_); focus (first | (simp; done) | (simp; omega) | omega)) | (with_reducible refine Below.drew ?_) | (with_reducible refine bl_drewN _ ?_))) (hb.mono (by first | (simp; done) | (simp; omega) | omega)); obtain ⟨hc, hf⟩ := bcell hb; have hz := hb.size; (try simp at hz); (try have hy0 : w.heap.size < w'.heap.size := by omega); (try have hy1 : w.heap.size + 1 < w'.heap.size := by omega); (try have hy2 : w.heap.size + 1 + 1 < w'.heap.size := by omega); (try have hy3 : w.heap.size + 1 + 1 + 1 < w'.heap.size := by omega); clear hb))
    go_ret
    exact ⟨ret_int (by unfold toldF; first | (rw [if_pos (by simpa using ZH.out)]) | (rw [if_neg (by simpa using ZH.out)])), by (repeat first | (with_reducible assumption) | (with_reducible exact Below.refl _ _) | ((with_reducible refine bl_alloc _ ?_ ?_); focus (first | (simp; done) | (simp; omega) | omega)) | ((with_reducible refine bl_set _ ?_ ?_); focus (first | (simp; done) | (simp; omega) | omega)) | (with_reducible refine Below.drew ?_) | (with_reducible refine bl_drewN _ ?_))⟩

set_option maxHeartbeats 1600000 in
theorem l5Next_any (r : Nat → Int) (hr : Rope r) (w : World) : Calls Try.prog 58 #[A6 r] w fun e w' => e = .returned (.int .i64 (toldF r)) ∧ Below w.heap.size w w' := by
  have hbh := hr.halves
  obtain ⟨hbh0, hbh1⟩ := hbh
  have lo0 := hr.lo 0 (by omega)
  have en0 : 0 ≤ r 3 ∧ r 3 ≤ 2 := hr.en 0 (by omega)
  have lo1 := hr.lo 1 (by omega)
  have en1 : 0 ≤ r 4 ∧ r 4 ≤ 2 := hr.en 1 (by omega)
  have lo2 := hr.lo 2 (by omega)
  have en2 : 0 ≤ r 5 ∧ r 5 ≤ 2 := hr.en 2 (by omega)
  obtain ⟨lo00, lo01⟩ := lo0
  obtain ⟨lo10, lo11⟩ := lo1
  obtain ⟨lo20, lo21⟩ := lo2
  obtain ⟨en00, en01⟩ := en0
  obtain ⟨en10, en11⟩ := en1
  obtain ⟨en20, en21⟩ := en2
  have i0 : ∀ w : World, (Instr.index 27 (.agg #[.int .i64 (r 0), .int .i64 (r 1), .int .i64 (r 2)]) (.int .i64 0)).run Try.prog w = .ok (.int .i64 (r 0)) w := fun _ => by kernel_rfl
  have i1 : ∀ w : World, (Instr.index 27 (.agg #[.int .i64 (r 0), .int .i64 (r 1), .int .i64 (r 2)]) (.int .i64 1)).run Try.prog w = .ok (.int .i64 (r 1)) w := fun _ => by kernel_rfl
  have i2 : ∀ w : World, (Instr.index 27 (.agg #[.int .i64 (r 0), .int .i64 (r 1), .int .i64 (r 2)]) (.int .i64 2)).run Try.prog w = .ok (.int .i64 (r 2)) w := fun _ => by kernel_rfl
  have HB : Hid (0 ≤ halvesF r ∧ halvesF r ≤ 7680) := ⟨hbh0, hbh1⟩
  clear hr hbh0 hbh1
  go_enter Try.func58, Try.ntmps58
  go_wp2_with fail
  go_loopw [3, 4] (fun l i wr => ∃ j : Nat, j ≤ 3 ∧ i = .int .i64 j ∧ l = .int .i64 (halvesTo r j) ∧ Below w.heap.size w wr ∧ wr.cell? ⟨w.heap.size, 0, none⟩ = some (.int .i64 (r 0)) ∧ wr.cell? ⟨w.heap.size, 1, none⟩ = some (.int .i64 (r 1)) ∧ wr.cell? ⟨w.heap.size, 2, none⟩ = some (.int .i64 (r 2)) ∧ wr.cell? ⟨w.heap.size, 3, none⟩ = some (.int .i64 (r 3)) ∧ wr.cell? ⟨w.heap.size, 4, none⟩ = some (.int .i64 (r 4)) ∧ wr.cell? ⟨w.heap.size, 5, none⟩ = some (.int .i64 (r 5))) (fun _ i _ => 3 - (intOf i).toNat)
  case atStart => exact ⟨0, by omega, rfl, rfl, (Below.refl _ _).alloc (Nat.le_refl _) _, by simp, by simp, by simp, by simp, by simp, by simp⟩
  case round =>
    obtain ⟨j, hj, rfl, rfl, hB, cc0, cc1, cc2, cc3, cc4, cc5⟩ := hrel
    generalize hl : halvesTo r j = l at *
    have HL : Hid (halvesTo r j = l) := hl
    clear hl
    obtain rfl | rfl | rfl | rfl : j = 0 ∨ j = 1 ∨ j = 2 ∨ j = 3 := by omega
    · by_cases p : r 3 = 0
      · have b1 : decide (0 < r 3) = false := by simp [p]
        have P : Hid (r 3 = 0) := p
        clear p
        go_wp2_with (first | (go_quiet (fail)))
        go_roundw
        case rel => exact ⟨0 + 1, by omega, by go_num, by rw [halvesTo, HL.out]; unfold hx; rw [if_pos P.out], by (repeat first | (with_reducible assumption) | (with_reducible exact Below.refl _ _) | ((with_reducible refine bl_alloc _ ?_ ?_); focus (first | (simp; done) | (simp; omega) | omega)) | ((with_reducible refine bl_set _ ?_ ?_); focus (first | (simp; done) | (simp; omega) | omega)) | (with_reducible refine Below.drew ?_) | (with_reducible refine bl_drewN _ ?_)), by simpa using cc0, by simpa using cc1, by simpa using cc2, by simpa using cc3, by simpa using cc4, by simpa using cc5⟩
        case measure => simp [intOf]
      · have b1 : decide (0 < r 3) = true := decide_eq_true (by omega)
        have p1 : 1 ≤ r 3 := by omega
        clear p
        by_cases c1 : l = 0
        · have b2 : (l == 0) = true := by simp [c1]
          have C : Hid (l = 0) := c1
          clear c1
          go_wp2_with (first | (go_quiet (fail)))
          go_roundw
          case rel => exact ⟨0 + 1, by omega, by go_num, by rw [halvesTo, HL.out]; unfold hx; rw [if_neg (show ¬ r (3 + 0) = 0 from by show ¬ r 3 = 0; omega), if_pos (Or.inl C.out)], by (repeat first | (with_reducible assumption) | (with_reducible exact Below.refl _ _) | ((with_reducible refine bl_alloc _ ?_ ?_); focus (first | (simp; done) | (simp; omega) | omega)) | ((with_reducible refine bl_set _ ?_ ?_); focus (first | (simp; done) | (simp; omega) | omega)) | (with_reducible refine Below.drew ?_) | (with_reducible refine bl_drewN _ ?_)), by simpa using cc0, by simpa using cc1, by simpa using cc2, by simpa using cc3, by simpa using cc4, by simpa using cc5⟩
          case measure => simp [intOf]
        · have b2 : (l == 0) = false := by simp [c1]
          by_cases c2 : 2 * r 0 / r 3 < l
          · have C : Hid (l = 0 ∨ 2 * r 0 / r (3 + 0) < l) := Or.inr c2
            clear c1
            go_wp2_with (first | (go_quiet (fail)))
            go_roundw
            case rel => exact ⟨0 + 1, by omega, by go_num, by rw [halvesTo, HL.out]; unfold hx; rw [if_neg (show ¬ r (3 + 0) = 0 from by show ¬ r 3 = 0; omega), if_pos C.out], by (repeat first | (with_reducible assumption) | (with_reducible exact Below.refl _ _) | ((with_reducible refine bl_alloc _ ?_ ?_); focus (first | (simp; done) | (simp; omega) | omega)) | ((with_reducible refine bl_set _ ?_ ?_); focus (first | (simp; done) | (simp; omega) | omega)) | (with_reducible refine Below.drew ?_) | (with_reducible refine bl_drewN _ ?_)), by simpa using cc0, by simpa using cc1, by simpa using cc2, by simpa using cc3, by simpa using cc4, by simpa using cc5⟩
            case measure => simp [intOf]
          · have C : Hid (¬ (l = 0 ∨ 2 * r 0 / r (3 + 0) < l)) := fun h => h.elim c1 c2
            clear c1
            go_wp2_with (first | (go_quiet (fail)))
            go_roundw
            case rel => exact ⟨0 + 1, by omega, by go_num, by rw [halvesTo, HL.out]; unfold hx; rw [if_neg (show ¬ r (3 + 0) = 0 from by show ¬ r 3 = 0; omega), if_neg C.out], by (repeat first | (with_reducible assumption) | (with_reducible exact Below.refl _ _) | ((with_reducible refine bl_alloc _ ?_ ?_); focus (first | (simp; done) | (simp; omega) | omega)) | ((with_reducible refine bl_set _ ?_ ?_); focus (first | (simp; done) | (simp; omega) | omega)) | (with_reducible refine Below.drew ?_) | (with_reducible refine bl_drewN _ ?_)), by simpa using cc0, by simpa using cc1, by simpa using cc2, by simpa using cc3, by simpa using cc4, by simpa using cc5⟩
            case measure => simp [intOf]
    · by_cases p : r 4 = 0
      · have b1 : decide (0 < r 4) = false := by simp [p]
        have P : Hid (r 4 = 0) := p
        clear p
        go_wp2_with (first | (go_quiet (fail)))
        go_roundw
        case rel => exact ⟨1 + 1, by omega, by go_num, by rw [halvesTo, HL.out]; unfold hx; rw [if_pos P.out], by (repeat first | (with_reducible assumption) | (with_reducible exact Below.refl _ _) | ((with_reducible refine bl_alloc _ ?_ ?_); focus (first | (simp; done) | (simp; omega) | omega)) | ((with_reducible refine bl_set _ ?_ ?_); focus (first | (simp; done) | (simp; omega) | omega)) | (with_reducible refine Below.drew ?_) | (with_reducible refine bl_drewN _ ?_)), by simpa using cc0, by simpa using cc1, by simpa using cc2, by simpa using cc3, by simpa using cc4, by simpa using cc5⟩
        case measure => simp [intOf]
      · have b1 : decide (0 < r 4) = true := decide_eq_true (by omega)
        have p1 : 1 ≤ r 4 := by omega
        clear p
        by_cases c1 : l = 0
        · have b2 : (l == 0) = true := by simp [c1]
          have C : Hid (l = 0) := c1
          clear c1
          go_wp2_with (first | (go_quiet (fail)))
          go_roundw
          case rel => exact ⟨1 + 1, by omega, by go_num, by rw [halvesTo, HL.out]; unfold hx; rw [if_neg (show ¬ r (3 + 1) = 0 from by show ¬ r 4 = 0; omega), if_pos (Or.inl C.out)], by (repeat first | (with_reducible assumption) | (with_reducible exact Below.refl _ _) | ((with_reducible refine bl_alloc _ ?_ ?_); focus (first | (simp; done) | (simp; omega) | omega)) | ((with_reducible refine bl_set _ ?_ ?_); focus (first | (simp; done) | (simp; omega) | omega)) | (with_reducible refine Below.drew ?_) | (with_reducible refine bl_drewN _ ?_)), by simpa using cc0, by simpa using cc1, by simpa using cc2, by simpa using cc3, by simpa using cc4, by simpa using cc5⟩
          case measure => simp [intOf]
        · have b2 : (l == 0) = false := by simp [c1]
          by_cases c2 : 2 * r 1 / r 4 < l
          · have C : Hid (l = 0 ∨ 2 * r 1 / r (3 + 1) < l) := Or.inr c2
            clear c1
            go_wp2_with (first | (go_quiet (fail)))
            go_roundw
            case rel => exact ⟨1 + 1, by omega, by go_num, by rw [halvesTo, HL.out]; unfold hx; rw [if_neg (show ¬ r (3 + 1) = 0 from by show ¬ r 4 = 0; omega), if_pos C.out], by (repeat first | (with_reducible assumption) | (with_reducible exact Below.refl _ _) | ((with_reducible refine bl_alloc _ ?_ ?_); focus (first | (simp; done) | (simp; omega) | omega)) | ((with_reducible refine bl_set _ ?_ ?_); focus (first | (simp; done) | (simp; omega) | omega)) | (with_reducible refine Below.drew ?_) | (with_reducible refine bl_drewN _ ?_)), by simpa using cc0, by simpa using cc1, by simpa using cc2, by simpa using cc3, by simpa using cc4, by simpa using cc5⟩
            case measure => simp [intOf]
          · have C : Hid (¬ (l = 0 ∨ 2 * r 1 / r (3 + 1) < l)) := fun h => h.elim c1 c2
            clear c1
            go_wp2_with (first | (go_quiet (fail)))
            go_roundw
            case rel => exact ⟨1 + 1, by omega, by go_num, by rw [halvesTo, HL.out]; unfold hx; rw [if_neg (show ¬ r (3 + 1) = 0 from by show ¬ r 4 = 0; omega), if_neg C.out], by (repeat first | (with_reducible assumption) | (with_reducible exact Below.refl _ _) | ((with_reducible refine bl_alloc _ ?_ ?_); focus (first | (simp; done) | (simp; omega) | omega)) | ((with_reducible refine bl_set _ ?_ ?_); focus (first | (simp; done) | (simp; omega) | omega)) | (with_reducible refine Below.drew ?_) | (with_reducible refine bl_drewN _ ?_)), by simpa using cc0, by simpa using cc1, by simpa using cc2, by simpa using cc3, by simpa using cc4, by simpa using cc5⟩
            case measure => simp [intOf]
    · by_cases p : r 5 = 0
      · have b1 : decide (0 < r 5) = false := by simp [p]
        have P : Hid (r 5 = 0) := p
        clear p
        go_wp2_with (first | (go_quiet (fail)))
        go_roundw
        case rel => exact ⟨2 + 1, by omega, by go_num, by rw [halvesTo, HL.out]; unfold hx; rw [if_pos P.out], by (repeat first | (with_reducible assumption) | (with_reducible exact Below.refl _ _) | ((with_reducible refine bl_alloc _ ?_ ?_); focus (first | (simp; done) | (simp; omega) | omega)) | ((with_reducible refine bl_set _ ?_ ?_); focus (first | (simp; done) | (simp; omega) | omega)) | (with_reducible refine Below.drew ?_) | (with_reducible refine bl_drewN _ ?_)), by simpa using cc0, by simpa using cc1, by simpa using cc2, by simpa using cc3, by simpa using cc4, by simpa using cc5⟩
        case measure => simp [intOf]
      · have b1 : decide (0 < r 5) = true := decide_eq_true (by omega)
        have p1 : 1 ≤ r 5 := by omega
        clear p
        by_cases c1 : l = 0
        · have b2 : (l == 0) = true := by simp [c1]
          have C : Hid (l = 0) := c1
          clear c1
          go_wp2_with (first | (go_quiet (fail)))
          go_roundw
          case rel => exact ⟨2 + 1, by omega, by go_num, by rw [halvesTo, HL.out]; unfold hx; rw [if_neg (show ¬ r (3 + 2) = 0 from by show ¬ r 5 = 0; omega), if_pos (Or.inl C.out)], by (repeat first | (with_reducible assumption) | (with_reducible exact Below.refl _ _) | ((with_reducible refine bl_alloc _ ?_ ?_); focus (first | (simp; done) | (simp; omega) | omega)) | ((with_reducible refine bl_set _ ?_ ?_); focus (first | (simp; done) | (simp; omega) | omega)) | (with_reducible refine Below.drew ?_) | (with_reducible refine bl_drewN _ ?_)), by simpa using cc0, by simpa using cc1, by simpa using cc2, by simpa using cc3, by simpa using cc4, by simpa using cc5⟩
          case measure => simp [intOf]
        · have b2 : (l == 0) = false := by simp [c1]
          by_cases c2 : 2 * r 2 / r 5 < l
          · have C : Hid (l = 0 ∨ 2 * r 2 / r (3 + 2) < l) := Or.inr c2
            clear c1
            go_wp2_with (first | (go_quiet (fail)))
            go_roundw
            case rel => exact ⟨2 + 1, by omega, by go_num, by rw [halvesTo, HL.out]; unfold hx; rw [if_neg (show ¬ r (3 + 2) = 0 from by show ¬ r 5 = 0; omega), if_pos C.out], by (repeat first | (with_reducible assumption) | (with_reducible exact Below.refl _ _) | ((with_reducible refine bl_alloc _ ?_ ?_); focus (first | (simp; done) | (simp; omega) | omega)) | ((with_reducible refine bl_set _ ?_ ?_); focus (first | (simp; done) | (simp; omega) | omega)) | (with_reducible refine Below.drew ?_) | (with_reducible refine bl_drewN _ ?_)), by simpa using cc0, by simpa using cc1, by simpa using cc2, by simpa using cc3, by simpa using cc4, by simpa using cc5⟩
            case measure => simp [intOf]
          · have C : Hid (¬ (l = 0 ∨ 2 * r 2 / r (3 + 2) < l)) := fun h => h.elim c1 c2
            clear c1
            go_wp2_with (first | (go_quiet (fail)))
            go_roundw
            case rel => exact ⟨2 + 1, by omega, by go_num, by rw [halvesTo, HL.out]; unfold hx; rw [if_neg (show ¬ r (3 + 2) = 0 from by show ¬ r 5 = 0; omega), if_neg C.out], by (repeat first | (with_reducible assumption) | (with_reducible exact Below.refl _ _) | ((with_reducible refine bl_alloc _ ?_ ?_); focus (first | (simp; done) | (simp; omega) | omega)) | ((with_reducible refine bl_set _ ?_ ?_); focus (first | (simp; done) | (simp; omega) | omega)) | (with_reducible refine Below.drew ?_) | (with_reducible refine bl_drewN _ ?_)), by simpa using cc0, by simpa using cc1, by simpa using cc2, by simpa using cc3, by simpa using cc4, by simpa using cc5⟩
            case measure => simp [intOf]
    · have HE : halvesF r = l := HL.out
      have hb := HB.out
      rw [HE] at hb
      obtain ⟨hb0, hb1⟩ := hb
      have Q0 : toldF r = if l % 2 = 0 then l / 2 else 0 := by unfold toldF; rw [HE]
      have Q : Hid (toldF r = if l % 2 = 0 then l / 2 else 0) := Q0
      clear Q0
      clear HE
      have hm : l % 2 = 0 ∨ l % 2 = 1 := by omega
      rcases hm with z | z
      · have b1 : (l % 2 == 1) = false := by rw [z]; rfl
        have Z : Hid (l % 2 = 0) := z
        clear z
        go_wp2_with fail
        go_ret
        exact ⟨ret_int (by rw [Q.out, if_pos Z.out]), by (repeat first | (with_reducible assumption) | (with_reducible exact Below.refl _ _) | ((with_reducible refine bl_alloc _ ?_ ?_); focus (first | (simp; done) | (simp; omega) | omega)) | ((with_reducible refine bl_set _ ?_ ?_); focus (first | (simp; done) | (simp; omega) | omega)) | (with_reducible refine Below.drew ?_) | (with_reducible refine bl_drewN _ ?_))⟩
      · have b1 : (l % 2 == 1) = true := by rw [z]; rfl
        have Z : Hid (l % 2 = 1) := z
        clear z
        go_wp2_with fail
        go_ret
        exact ⟨ret_int (by rw [Q.out, if_neg (by rw [Z.out]; omega)]), by (repeat first | (with_reducible assumption) | (with_reducible exact Below.refl _ _) | ((with_reducible refine bl_alloc _ ?_ ?_); focus (first | (simp; done) | (simp; omega) | omega)) | ((with_reducible refine bl_set _ ?_ ?_); focus (first | (simp; done) | (simp; omega) | omega)) | (with_reducible refine Below.drew ?_) | (with_reducible refine bl_drewN _ ?_))⟩

set_option maxHeartbeats 800000 in
theorem NextBurning_any (r : Nat → Int) (w : World) : Calls Try.prog 40 #[A6 r] w fun e w' => e = .returned (.tuple #[.int .i64 (optI (toldF r) (isRopesB r)), .bool (isRopesB r && decide (0 < toldF r))]) ∧ Below w.heap.size w w' := by
  cases h : isRopesB r
  · go_enter Try.func40, Try.ntmps40
    go_wp2_with (first | (go_at_call 21; refine (isRopes_any r _).mono ?_; rintro e w' ⟨rfl, hb⟩; have hB : Below w.heap.size w w' := Below.trans (by (repeat first | (with_reducible assumption) | (with_reducible exact Below.refl _ _) | ((with_reducible refine bl_alloc _ ?_ ?_); focus (first | (simp; done) | (simp; omega) | omega)) | ((with_reducible refine bl_set _ ?_ ?_); focus (first | (simp; done) | (simp; omega) | omega)) | (with_reducible refine Below.drew ?_) | (with_reducible refine bl_drewN _ ?_))) (hb.mono (by first | (simp; done) | (simp; omega) | omega)); obtain ⟨hc, hf⟩ := bcell hb; have hz := hb.size; (try simp at hz); (try have hy0 : w.heap.size < w'.heap.size := by omega); (try have hy1 : w.heap.size + 1 < w'.heap.size := by omega); (try have hy2 : w.heap.size + 1 + 1 < w'.heap.size := by omega); (try have hy3 : w.heap.size + 1 + 1 + 1 < w'.heap.size := by omega); clear hb))
    go_ret2
    exact ⟨by simp [optI, *], by (repeat first | (with_reducible assumption) | (with_reducible exact Below.refl _ _) | ((with_reducible refine bl_alloc _ ?_ ?_); focus (first | (simp; done) | (simp; omega) | omega)) | ((with_reducible refine bl_set _ ?_ ?_); focus (first | (simp; done) | (simp; omega) | omega)) | (with_reducible refine Below.drew ?_) | (with_reducible refine bl_drewN _ ?_))⟩
  · have hr := rope_of h
    have ht := hr.told
    generalize hq : toldF r = q at *
    have HQ : Hid (toldF r = q) := hq
    clear hq
    obtain ⟨hq0, hq1⟩ := ht
    by_cases p : q = 0
    · have b1 : (q == 0) = true := by simp [p]
      have b2 : decide (0 < q) = false := by simp [p]
      have P : Hid (q = 0) := p
      clear p
      go_enter Try.func40, Try.ntmps40
      go_wp2_with (first | (go_at_call 21; refine (isRopes_any r _).mono ?_; rintro e w' ⟨rfl, hb⟩; have hB : Below w.heap.size w w' := Below.trans (by (repeat first | (with_reducible assumption) | (with_reducible exact Below.refl _ _) | ((with_reducible refine bl_alloc _ ?_ ?_); focus (first | (simp; done) | (simp; omega) | omega)) | ((with_reducible refine bl_set _ ?_ ?_); focus (first | (simp; done) | (simp; omega) | omega)) | (with_reducible refine Below.drew ?_) | (with_reducible refine bl_drewN _ ?_))) (hb.mono (by first | (simp; done) | (simp; omega) | omega)); obtain ⟨hc, hf⟩ := bcell hb; have hz := hb.size; (try simp at hz); (try have hy0 : w.heap.size < w'.heap.size := by omega); (try have hy1 : w.heap.size + 1 < w'.heap.size := by omega); (try have hy2 : w.heap.size + 1 + 1 < w'.heap.size := by omega); (try have hy3 : w.heap.size + 1 + 1 + 1 < w'.heap.size := by omega); clear hb) | (go_at_call 59; refine (told_any r hr _).mono ?_; rintro e w' ⟨he, hb⟩; (rw [HQ.out] at he); subst he; have hB : Below w.heap.size w w' := Below.trans (by (repeat first | (with_reducible assumption) | (with_reducible exact Below.refl _ _) | ((with_reducible refine bl_alloc _ ?_ ?_); focus (first | (simp; done) | (simp; omega) | omega)) | ((with_reducible refine bl_set _ ?_ ?_); focus (first | (simp; done) | (simp; omega) | omega)) | (with_reducible refine Below.drew ?_) | (with_reducible refine bl_drewN _ ?_))) (hb.mono (by first | (simp; done) | (simp; omega) | omega)); obtain ⟨hc, hf⟩ := bcell hb; have hz := hb.size; (try simp at hz); (try have hy0 : w.heap.size < w'.heap.size := by omega); (try have hy1 : w.heap.size + 1 < w'.heap.size := by omega); (try have hy2 : w.heap.size + 1 + 1 < w'.heap.size := by omega); (try have hy3 : w.heap.size + 1 + 1 + 1 < w'.heap.size := by omega); clear hb))
      go_ret2
      exact ⟨by simp [optI, P.out, *], by (repeat first | (with_reducible assumption) | (with_reducible exact Below.refl _ _) | ((with_reducible refine bl_alloc _ ?_ ?_); focus (first | (simp; done) | (simp; omega) | omega)) | ((with_reducible refine bl_set _ ?_ ?_); focus (first | (simp; done) | (simp; omega) | omega)) | (with_reducible refine Below.drew ?_) | (with_reducible refine bl_drewN _ ?_))⟩
    · have b1 : (q == 0) = false := by simp [p]
      have b2 : decide (0 < q) = true := decide_eq_true (by omega)
      clear p
      go_enter Try.func40, Try.ntmps40
      go_wp2_with (first | (go_at_call 21; refine (isRopes_any r _).mono ?_; rintro e w' ⟨rfl, hb⟩; have hB : Below w.heap.size w w' := Below.trans (by (repeat first | (with_reducible assumption) | (with_reducible exact Below.refl _ _) | ((with_reducible refine bl_alloc _ ?_ ?_); focus (first | (simp; done) | (simp; omega) | omega)) | ((with_reducible refine bl_set _ ?_ ?_); focus (first | (simp; done) | (simp; omega) | omega)) | (with_reducible refine Below.drew ?_) | (with_reducible refine bl_drewN _ ?_))) (hb.mono (by first | (simp; done) | (simp; omega) | omega)); obtain ⟨hc, hf⟩ := bcell hb; have hz := hb.size; (try simp at hz); (try have hy0 : w.heap.size < w'.heap.size := by omega); (try have hy1 : w.heap.size + 1 < w'.heap.size := by omega); (try have hy2 : w.heap.size + 1 + 1 < w'.heap.size := by omega); (try have hy3 : w.heap.size + 1 + 1 + 1 < w'.heap.size := by omega); clear hb) | (go_at_call 59; refine (told_any r hr _).mono ?_; rintro e w' ⟨he, hb⟩; (rw [HQ.out] at he); subst he; have hB : Below w.heap.size w w' := Below.trans (by (repeat first | (with_reducible assumption) | (with_reducible exact Below.refl _ _) | ((with_reducible refine bl_alloc _ ?_ ?_); focus (first | (simp; done) | (simp; omega) | omega)) | ((with_reducible refine bl_set _ ?_ ?_); focus (first | (simp; done) | (simp; omega) | omega)) | (with_reducible refine Below.drew ?_) | (with_reducible refine bl_drewN _ ?_))) (hb.mono (by first | (simp; done) | (simp; omega) | omega)); obtain ⟨hc, hf⟩ := bcell hb; have hz := hb.size; (try simp at hz); (try have hy0 : w.heap.size < w'.heap.size := by omega); (try have hy1 : w.heap.size + 1 < w'.heap.size := by omega); (try have hy2 : w.heap.size + 1 + 1 < w'.heap.size := by omega); (try have hy3 : w.heap.size + 1 + 1 + 1 < w'.heap.size := by omega); clear hb))
      go_ret2
      exact ⟨by simp [optI, *], by (repeat first | (with_reducible assumption) | (with_reducible exact Below.refl _ _) | ((with_reducible refine bl_alloc _ ?_ ?_); focus (first | (simp; done) | (simp; omega) | omega)) | ((with_reducible refine bl_set _ ?_ ?_); focus (first | (simp; done) | (simp; omega) | omega)) | (with_reducible refine Below.drew ?_) | (with_reducible refine bl_drewN _ ?_))⟩

set_option maxHeartbeats 800000 in
theorem specNextBurning_any (r : Nat → Int) (w : World) : Calls Try.prog 39 #[A6 r] w fun e w' => e = .returned (.tuple #[.int .i64 (optI (toldF r) (isRopesB r)), .bool (isRopesB r && decide (0 < toldF r))]) ∧ Below w.heap.size w w' := by
  cases h : isRopesB r
  · go_enter Try.func39, Try.ntmps39
    go_wp2_with (first | (go_at_call 44; refine (l5Good_any r _).mono ?_; rintro e w' ⟨rfl, hb⟩; have hB : Below w.heap.size w w' := Below.trans (by (repeat first | (with_reducible assumption) | (with_reducible exact Below.refl _ _) | ((with_reducible refine bl_alloc _ ?_ ?_); focus (first | (simp; done) | (simp; omega) | omega)) | ((with_reducible refine bl_set _ ?_ ?_); focus (first | (simp; done) | (simp; omega) | omega)) | (with_reducible refine Below.drew ?_) | (with_reducible refine bl_drewN _ ?_))) (hb.mono (by first | (simp; done) | (simp; omega) | omega)); obtain ⟨hc, hf⟩ := bcell hb; have hz := hb.size; (try simp at hz); (try have hy0 : w.heap.size < w'.heap.size := by omega); (try have hy1 : w.heap.size + 1 < w'.heap.size := by omega); (try have hy2 : w.heap.size + 1 + 1 < w'.heap.size := by omega); (try have hy3 : w.heap.size + 1 + 1 + 1 < w'.heap.size := by omega); clear hb))
    go_ret2
    exact ⟨by simp [optI, *], by (repeat first | (with_reducible assumption) | (with_reducible exact Below.refl _ _) | ((with_reducible refine bl_alloc _ ?_ ?_); focus (first | (simp; done) | (simp; omega) | omega)) | ((with_reducible refine bl_set _ ?_ ?_); focus (first | (simp; done) | (simp; omega) | omega)) | (with_reducible refine Below.drew ?_) | (with_reducible refine bl_drewN _ ?_))⟩
  · have hr := rope_of h
    have ht := hr.told
    generalize hq : toldF r = q at *
    have HQ : Hid (toldF r = q) := hq
    clear hq
    obtain ⟨hq0, hq1⟩ := ht
    by_cases p : q = 0
    · have b1 : (q == 0) = true := by simp [p]
      have b2 : decide (0 < q) = false := by simp [p]
      have P : Hid (q = 0) := p
      clear p
      go_enter Try.func39, Try.ntmps39
      go_wp2_with (first | (go_at_call 44; refine (l5Good_any r _).mono ?_; rintro e w' ⟨rfl, hb⟩; have hB : Below w.heap.size w w' := Below.trans (by (repeat first | (with_reducible assumption) | (with_reducible exact Below.refl _ _) | ((with_reducible refine bl_alloc _ ?_ ?_); focus (first | (simp; done) | (simp; omega) | omega)) | ((with_reducible refine bl_set _ ?_ ?_); focus (first | (simp; done) | (simp; omega) | omega)) | (with_reducible refine Below.drew ?_) | (with_reducible refine bl_drewN _ ?_))) (hb.mono (by first | (simp; done) | (simp; omega) | omega)); obtain ⟨hc, hf⟩ := bcell hb; have hz := hb.size; (try simp at hz); (try have hy0 : w.heap.size < w'.heap.size := by omega); (try have hy1 : w.heap.size + 1 < w'.heap.size := by omega); (try have hy2 : w.heap.size + 1 + 1 < w'.heap.size := by omega); (try have hy3 : w.heap.size + 1 + 1 + 1 < w'.heap.size := by omega); clear hb) | (go_at_call 58; refine (l5Next_any r hr _).mono ?_; rintro e w' ⟨he, hb⟩; (rw [HQ.out] at he); subst he; have hB : Below w.heap.size w w' := Below.trans (by (repeat first | (with_reducible assumption) | (with_reducible exact Below.refl _ _) | ((with_reducible refine bl_alloc _ ?_ ?_); focus (first | (simp; done) | (simp; omega) | omega)) | ((with_reducible refine bl_set _ ?_ ?_); focus (first | (simp; done) | (simp; omega) | omega)) | (with_reducible refine Below.drew ?_) | (with_reducible refine bl_drewN _ ?_))) (hb.mono (by first | (simp; done) | (simp; omega) | omega)); obtain ⟨hc, hf⟩ := bcell hb; have hz := hb.size; (try simp at hz); (try have hy0 : w.heap.size < w'.heap.size := by omega); (try have hy1 : w.heap.size + 1 < w'.heap.size := by omega); (try have hy2 : w.heap.size + 1 + 1 < w'.heap.size := by omega); (try have hy3 : w.heap.size + 1 + 1 + 1 < w'.heap.size := by omega); clear hb))
      go_ret2
      exact ⟨by simp [optI, P.out, *], by (repeat first | (with_reducible assumption) | (with_reducible exact Below.refl _ _) | ((with_reducible refine bl_alloc _ ?_ ?_); focus (first | (simp; done) | (simp; omega) | omega)) | ((with_reducible refine bl_set _ ?_ ?_); focus (first | (simp; done) | (simp; omega) | omega)) | (with_reducible refine Below.drew ?_) | (with_reducible refine bl_drewN _ ?_))⟩
    · have b1 : (q == 0) = false := by simp [p]
      have b2 : decide (0 < q) = true := decide_eq_true (by omega)
      clear p
      go_enter Try.func39, Try.ntmps39
      go_wp2_with (first | (go_at_call 44; refine (l5Good_any r _).mono ?_; rintro e w' ⟨rfl, hb⟩; have hB : Below w.heap.size w w' := Below.trans (by (repeat first | (with_reducible assumption) | (with_reducible exact Below.refl _ _) | ((with_reducible refine bl_alloc _ ?_ ?_); focus (first | (simp; done) | (simp; omega) | omega)) | ((with_reducible refine bl_set _ ?_ ?_); focus (first | (simp; done) | (simp; omega) | omega)) | (with_reducible refine Below.drew ?_) | (with_reducible refine bl_drewN _ ?_))) (hb.mono (by first | (simp; done) | (simp; omega) | omega)); obtain ⟨hc, hf⟩ := bcell hb; have hz := hb.size; (try simp at hz); (try have hy0 : w.heap.size < w'.heap.size := by omega); (try have hy1 : w.heap.size + 1 < w'.heap.size := by omega); (try have hy2 : w.heap.size + 1 + 1 < w'.heap.size := by omega); (try have hy3 : w.heap.size + 1 + 1 + 1 < w'.heap.size := by omega); clear hb) | (go_at_call 58; refine (l5Next_any r hr _).mono ?_; rintro e w' ⟨he, hb⟩; (rw [HQ.out] at he); subst he; have hB : Below w.heap.size w w' := Below.trans (by (repeat first | (with_reducible assumption) | (with_reducible exact Below.refl _ _) | ((with_reducible refine bl_alloc _ ?_ ?_); focus (first | (simp; done) | (simp; omega) | omega)) | ((with_reducible refine bl_set _ ?_ ?_); focus (first | (simp; done) | (simp; omega) | omega)) | (with_reducible refine Below.drew ?_) | (with_reducible refine bl_drewN _ ?_))) (hb.mono (by first | (simp; done) | (simp; omega) | omega)); obtain ⟨hc, hf⟩ := bcell hb; have hz := hb.size; (try simp at hz); (try have hy0 : w.heap.size < w'.heap.size := by omega); (try have hy1 : w.heap.size + 1 < w'.heap.size := by omega); (try have hy2 : w.heap.size + 1 + 1 < w'.heap.size := by omega); (try have hy3 : w.heap.size + 1 + 1 + 1 < w'.heap.size := by omega); clear hb))
      go_ret2
      exact ⟨by simp [optI, *], by (repeat first | (with_reducible assumption) | (with_reducible exact Below.refl _ _) | ((with_reducible refine bl_alloc _ ?_ ?_); focus (first | (simp; done) | (simp; omega) | omega)) | ((with_reducible refine bl_set _ ?_ ?_); focus (first | (simp; done) | (simp; omega) | omega)) | (with_reducible refine Below.drew ?_) | (with_reducible refine bl_drewN _ ?_))⟩

end Go.Proofs.Ytgfiggmkncafiaa
