/- Contracts of the functions that turn glasses and let minutes pass. No statement of the seat is proved here. -/
import Derived.Test.YtlhodfjdmafapaaTurn
namespace Go.Proofs.Ytlhodfjdmafapaa
open Go.RowKit
set_option linter.unusedVariables false

theorem l1Most_any (a b : Int) (w : World) : Calls Try.prog 51 #[.int .i64 a, .int .i64 b] w fun e w' => e = .returned (.int .i64 (max a b)) ∧ w = w' := by
  go_enter Try.func51, Try.ntmps51
  go_wp2
  all_goals (go_ret; exact ⟨ret_int (by show _ = max a b; omega), rfl⟩)

theorem l1Least_any (a b : Int) (w : World) : Calls Try.prog 100 #[.int .i64 a, .int .i64 b] w fun e w' => e = .returned (.int .i64 (min a b)) ∧ w = w' := by
  go_enter Try.func100, Try.ntmps100
  go_wp2
  all_goals (go_ret; exact ⟨ret_int (by show _ = min a b; omega), rfl⟩)

theorem isSet_any (k : Nat → Int) (set : Int) (w : World) : Calls Try.prog 90 #[A4 k, .int .i64 set] w fun e w' => e = .returned (.bool (isSetB k set)) ∧ Below w.heap.size w w' := by
  go_enter Try.func90, Try.ntmps90
  go_wp2_with (first | (go_at_call 64; refine (within_any _ _ _ _).mono ?_; rintro e w' ⟨rfl, rfl⟩) | (go_at_call 104; refine (all_any k _).mono ?_; rintro e w' ⟨rfl, hb⟩; have hB : Below w.heap.size w w' := Below.trans (by (repeat first | (with_reducible assumption) | (with_reducible exact Below.refl _ _) | ((with_reducible refine bl_alloc _ ?_ ?_); focus (first | (simp; done) | (simp; omega) | omega)) | ((with_reducible refine bl_set _ ?_ ?_); focus (first | (simp; done) | (simp; omega) | omega)) | (with_reducible refine Below.drew ?_) | (with_reducible refine bl_drewN _ ?_))) (hb.mono (by first | (simp; done) | (simp; omega) | omega)); obtain ⟨hc, hf⟩ := bcell hb; have hz := hb.size; (try simp at hz); (try have hy0 : w.heap.size < w'.heap.size := by omega); (try have hy1 : w.heap.size + 1 < w'.heap.size := by omega); (try have hy2 : w.heap.size + 1 + 1 < w'.heap.size := by omega); (try have hy3 : w.heap.size + 1 + 1 + 1 < w'.heap.size := by omega); clear hb))
  all_goals (go_ret; exact ⟨ret_bool (by simp_all [isSetB]), by (repeat first | (with_reducible assumption) | (with_reducible exact Below.refl _ _) | ((with_reducible refine bl_alloc _ ?_ ?_); focus (first | (simp; done) | (simp; omega) | omega)) | ((with_reducible refine bl_set _ ?_ ?_); focus (first | (simp; done) | (simp; omega) | omega)) | (with_reducible refine Below.drew ?_) | (with_reducible refine bl_drewN _ ?_))⟩)

theorem l2Set_any (k : Nat → Int) (set : Int) (w : World) : Calls Try.prog 61 #[A4 k, .int .i64 set] w fun e w' => e = .returned (.bool (isSetB k set)) ∧ Below w.heap.size w w' := by
  go_enter Try.func61, Try.ntmps61
  go_wp2_with (first | (go_at_call 59; refine (l1In_any _ _ _ _).mono ?_; rintro e w' ⟨rfl, rfl⟩) | (go_at_call 86; refine (l2All_any k _).mono ?_; rintro e w' ⟨rfl, hb⟩; have hB : Below w.heap.size w w' := Below.trans (by (repeat first | (with_reducible assumption) | (with_reducible exact Below.refl _ _) | ((with_reducible refine bl_alloc _ ?_ ?_); focus (first | (simp; done) | (simp; omega) | omega)) | ((with_reducible refine bl_set _ ?_ ?_); focus (first | (simp; done) | (simp; omega) | omega)) | (with_reducible refine Below.drew ?_) | (with_reducible refine bl_drewN _ ?_))) (hb.mono (by first | (simp; done) | (simp; omega) | omega)); obtain ⟨hc, hf⟩ := bcell hb; have hz := hb.size; (try simp at hz); (try have hy0 : w.heap.size < w'.heap.size := by omega); (try have hy1 : w.heap.size + 1 < w'.heap.size := by omega); (try have hy2 : w.heap.size + 1 + 1 < w'.heap.size := by omega); (try have hy3 : w.heap.size + 1 + 1 + 1 < w'.heap.size := by omega); clear hb))
  all_goals (go_ret; exact ⟨ret_bool (by simp_all [isSetB]), by (repeat first | (with_reducible assumption) | (with_reducible exact Below.refl _ _) | ((with_reducible refine bl_alloc _ ?_ ?_); focus (first | (simp; done) | (simp; omega) | omega)) | ((with_reducible refine bl_set _ ?_ ?_); focus (first | (simp; done) | (simp; omega) | omega)) | (with_reducible refine Below.drew ?_) | (with_reducible refine bl_drewN _ ?_))⟩)

set_option maxHeartbeats 1600000 in
theorem pass_any (k s : Nat → Int) (d : Int) (hs : Sand k s) (hd : 0 ≤ d) (w : World) : Calls Try.prog 93 #[A4 s, .int .i64 d] w fun e w' => e = .returned (A4 (passF s d)) ∧ Below w.heap.size w w' := by
  obtain ⟨hlo, hhi, htop⟩ := hs
  have lo0 := hlo 0 (by omega)
  have hi0 := hhi 0 (by omega)
  have tp0 := htop 0 (by omega)
  have lo1 := hlo 1 (by omega)
  have hi1 := hhi 1 (by omega)
  have tp1 := htop 1 (by omega)
  have lo2 := hlo 2 (by omega)
  have hi2 := hhi 2 (by omega)
  have tp2 := htop 2 (by omega)
  have lo3 := hlo 3 (by omega)
  have hi3 := hhi 3 (by omega)
  have tp3 := htop 3 (by omega)
  clear hlo hhi htop
  have i0 : ∀ w : World, (Instr.index 22 (A4 s) (.int .i64 0)).run Try.prog w = .ok (.int .i64 (s 0)) w := fun _ => by kernel_rfl
  have i1 : ∀ w : World, (Instr.index 22 (A4 s) (.int .i64 1)).run Try.prog w = .ok (.int .i64 (s 1)) w := fun _ => by kernel_rfl
  have i2 : ∀ w : World, (Instr.index 22 (A4 s) (.int .i64 2)).run Try.prog w = .ok (.int .i64 (s 2)) w := fun _ => by kernel_rfl
  have i3 : ∀ w : World, (Instr.index 22 (A4 s) (.int .i64 3)).run Try.prog w = .ok (.int .i64 (s 3)) w := fun _ => by kernel_rfl
  go_enter Try.func93, Try.ntmps93
  go_wp2_with fail
  refine wp_loop_rounds 5 ?_
  go_wp2_with (first | (rw [rounds_succ]))
  all_goals (refine bodyPost_ret (v := A4 (passF s d)) (by simp [results, Try.results93, go_sem, passF]; omega) rfl ⟨rfl, by (repeat first | (with_reducible assumption) | (with_reducible exact Below.refl _ _) | ((with_reducible refine bl_alloc _ ?_ ?_); focus (first | (simp; done) | (simp; omega) | omega)) | ((with_reducible refine bl_set _ ?_ ?_); focus (first | (simp; done) | (simp; omega) | omega)) | (with_reducible refine Below.drew ?_) | (with_reducible refine bl_drewN _ ?_))⟩)

theorem l2Pass_any (k s : Nat → Int) (d : Int) (hs : Sand k s) (hd : 0 ≤ d) (hd2 : d ≤ 30) (w : World) : Calls Try.prog 85 #[A4 s, .int .i64 d] w fun e w' => e = .returned (A4 (passF s d)) ∧ Below w.heap.size w w' := by
  obtain ⟨hlo, hhi, htop⟩ := hs
  have lo0 := hlo 0 (by omega)
  have hi0 := hhi 0 (by omega)
  have tp0 := htop 0 (by omega)
  have lo1 := hlo 1 (by omega)
  have hi1 := hhi 1 (by omega)
  have tp1 := htop 1 (by omega)
  have lo2 := hlo 2 (by omega)
  have hi2 := hhi 2 (by omega)
  have tp2 := htop 2 (by omega)
  have lo3 := hlo 3 (by omega)
  have hi3 := hhi 3 (by omega)
  have tp3 := htop 3 (by omega)
  clear hlo hhi htop
  go_enter Try.func85, Try.ntmps85
  go_wp2_with fail
  refine wp_loop_rounds 5 ?_
  go_wp2_with (first | (rw [rounds_succ]) | (go_at_call 51; refine (l1Most_any _ _ _).mono ?_; rintro e w' ⟨rfl, rfl⟩))
  refine bodyPost_ret (v := A4 (passF s d)) (by simp [results, Try.results85, go_sem, passF]) rfl ⟨rfl, by (repeat first | (with_reducible assumption) | (with_reducible exact Below.refl _ _) | ((with_reducible refine bl_alloc _ ?_ ?_); focus (first | (simp; done) | (simp; omega) | omega)) | ((with_reducible refine bl_set _ ?_ ?_); focus (first | (simp; done) | (simp; omega) | omega)) | (with_reducible refine Below.drew ?_) | (with_reducible refine bl_drewN _ ?_))⟩

theorem next_any (s : Nat → Int) (w : World) : Calls Try.prog 92 #[A4 s] w fun e w' => e = .returned (.int .i64 (nextF s)) ∧ Below w.heap.size w w' := by
  have i0 : ∀ w : World, (Instr.index 22 (A4 s) (.int .i64 0)).run Try.prog w = .ok (.int .i64 (s 0)) w := fun _ => by kernel_rfl
  have i1 : ∀ w : World, (Instr.index 22 (A4 s) (.int .i64 1)).run Try.prog w = .ok (.int .i64 (s 1)) w := fun _ => by kernel_rfl
  have i2 : ∀ w : World, (Instr.index 22 (A4 s) (.int .i64 2)).run Try.prog w = .ok (.int .i64 (s 2)) w := fun _ => by kernel_rfl
  have i3 : ∀ w : World, (Instr.index 22 (A4 s) (.int .i64 3)).run Try.prog w = .ok (.int .i64 (s 3)) w := fun _ => by kernel_rfl
  go_enter Try.func92, Try.ntmps92
  go_wp2_with fail
  go_loop [3, 7] (fun l i => ∃ j : Nat, j ≤ 4 ∧ i = .int .i64 j ∧ l = .int .i64 (nextTo s j)) (fun _ i => 4 - (intOf i).toNat)
  case atStart => exact ⟨0, by omega, rfl, rfl⟩
  case round =>
    obtain ⟨j, hj, rfl, rfl⟩ := hrel
    generalize hl : nextTo s j = l at *
    have HL : Hid (nextTo s j = l) := hl
    clear hl
    obtain rfl | rfl | rfl | rfl | rfl : j = 0 ∨ j = 1 ∨ j = 2 ∨ j = 3 ∨ j = 4 := by omega

    · go_wp2
      all_goals
        go_round
        case rel => exact ⟨0+1, by omega, by go_num, by rw [nextTo, HL.out]; unfold nx; congr 1; first | (rw [if_pos (by first | omega | (simp only [beq_iff_eq] at *; omega) | (simp only [beq_eq_false_iff_ne, ne_eq] at *; omega))]) | (rw [if_neg (by first | omega | (simp only [beq_iff_eq] at *; omega) | (simp only [beq_eq_false_iff_ne, ne_eq] at *; omega))])⟩
        case measure => simp [intOf]
    · go_wp2
      all_goals
        go_round
        case rel => exact ⟨1+1, by omega, by go_num, by rw [nextTo, HL.out]; unfold nx; congr 1; first | (rw [if_pos (by first | omega | (simp only [beq_iff_eq] at *; omega) | (simp only [beq_eq_false_iff_ne, ne_eq] at *; omega))]) | (rw [if_neg (by first | omega | (simp only [beq_iff_eq] at *; omega) | (simp only [beq_eq_false_iff_ne, ne_eq] at *; omega))])⟩
        case measure => simp [intOf]
    · go_wp2
      all_goals
        go_round
        case rel => exact ⟨2+1, by omega, by go_num, by rw [nextTo, HL.out]; unfold nx; congr 1; first | (rw [if_pos (by first | omega | (simp only [beq_iff_eq] at *; omega) | (simp only [beq_eq_false_iff_ne, ne_eq] at *; omega))]) | (rw [if_neg (by first | omega | (simp only [beq_iff_eq] at *; omega) | (simp only [beq_eq_false_iff_ne, ne_eq] at *; omega))])⟩
        case measure => simp [intOf]
    · go_wp2
      all_goals
        go_round
        case rel => exact ⟨3+1, by omega, by go_num, by rw [nextTo, HL.out]; unfold nx; congr 1; first | (rw [if_pos (by first | omega | (simp only [beq_iff_eq] at *; omega) | (simp only [beq_eq_false_iff_ne, ne_eq] at *; omega))]) | (rw [if_neg (by first | omega | (simp only [beq_iff_eq] at *; omega) | (simp only [beq_eq_false_iff_ne, ne_eq] at *; omega))])⟩
        case measure => simp [intOf]
    · go_wp2
      go_ret
      exact ⟨ret_int HL.out.symm, by (repeat first | (with_reducible assumption) | (with_reducible exact Below.refl _ _) | ((with_reducible refine bl_alloc _ ?_ ?_); focus (first | (simp; done) | (simp; omega) | omega)) | ((with_reducible refine bl_set _ ?_ ?_); focus (first | (simp; done) | (simp; omega) | omega)) | (with_reducible refine Below.drew ?_) | (with_reducible refine bl_drewN _ ?_))⟩

theorem l2Next_any (s : Nat → Int) (w : World) : Calls Try.prog 84 #[A4 s] w fun e w' => e = .returned (.int .i64 (nextF s)) ∧ Below w.heap.size w w' := by
  go_enter Try.func84, Try.ntmps84
  go_wp2_with fail
  go_loopw [3, 4] (fun l i wr => ∃ j : Nat, j ≤ 4 ∧ i = .int .i64 j ∧ l = .int .i64 (nextTo s j) ∧ Below w.heap.size w wr ∧ wr.cell? ⟨w.heap.size, 0, none⟩ = some (.int .i64 (s 0)) ∧ wr.cell? ⟨w.heap.size, 1, none⟩ = some (.int .i64 (s 1)) ∧ wr.cell? ⟨w.heap.size, 2, none⟩ = some (.int .i64 (s 2)) ∧ wr.cell? ⟨w.heap.size, 3, none⟩ = some (.int .i64 (s 3))) (fun _ i _ => 4 - (intOf i).toNat)
  case atStart => exact ⟨0, by omega, rfl, rfl, (Below.refl _ _).alloc (Nat.le_refl _) _, by simp, by simp, by simp, by simp⟩
  case round =>
    obtain ⟨j, hj, rfl, rfl, hB, c0, c1, c2, c3⟩ := hrel
    generalize hl : nextTo s j = l at *
    have HL : Hid (nextTo s j = l) := hl
    clear hl
    obtain rfl | rfl | rfl | rfl | rfl : j = 0 ∨ j = 1 ∨ j = 2 ∨ j = 3 ∨ j = 4 := by omega

    · by_cases p1 : 0 < s 0
      · have b1 : decide (0 < s 0) = true := by simpa using p1
        by_cases p2 : l = 0
        · have b2 : (l == 0) = true := by simpa using p2
          have p2' : l ≤ 0 ∧ 0 ≤ l := by omega
          clear p2
          go_wp2_with (first | (go_quiet (fail)))
          all_goals
          go_roundw
          case rel => exact ⟨0+1, by omega, by go_num, by rw [nextTo, HL.out]; unfold nx; congr 1; first | (rw [if_pos (by omega)]) | (rw [if_neg (by omega)]), by (repeat first | (with_reducible assumption) | (with_reducible exact Below.refl _ _) | ((with_reducible refine bl_alloc _ ?_ ?_); focus (first | (simp; done) | (simp; omega) | omega)) | ((with_reducible refine bl_set _ ?_ ?_); focus (first | (simp; done) | (simp; omega) | omega)) | (with_reducible refine Below.drew ?_) | (with_reducible refine bl_drewN _ ?_)), by simpa using c0, by simpa using c1, by simpa using c2, by simpa using c3⟩
          case measure => simp [intOf]
        · have b2 : (l == 0) = false := by simpa using p2
          by_cases p3 : s 0 < l
          · have b3 : decide (s 0 < l) = true := by simpa using p3
            go_wp2_with (first | (go_quiet (fail)))
            all_goals
            go_roundw
            case rel => exact ⟨0+1, by omega, by go_num, by rw [nextTo, HL.out]; unfold nx; congr 1; first | (rw [if_pos (by omega)]) | (rw [if_neg (by omega)]), by (repeat first | (with_reducible assumption) | (with_reducible exact Below.refl _ _) | ((with_reducible refine bl_alloc _ ?_ ?_); focus (first | (simp; done) | (simp; omega) | omega)) | ((with_reducible refine bl_set _ ?_ ?_); focus (first | (simp; done) | (simp; omega) | omega)) | (with_reducible refine Below.drew ?_) | (with_reducible refine bl_drewN _ ?_)), by simpa using c0, by simpa using c1, by simpa using c2, by simpa using c3⟩
            case measure => simp [intOf]
          · have b3 : decide (s 0 < l) = false := by simpa using p3
            go_wp2_with (first | (go_quiet (fail)))
            all_goals
            go_roundw
            case rel => exact ⟨0+1, by omega, by go_num, by rw [nextTo, HL.out]; unfold nx; congr 1; first | (rw [if_pos (by omega)]) | (rw [if_neg (by omega)]), by (repeat first | (with_reducible assumption) | (with_reducible exact Below.refl _ _) | ((with_reducible refine bl_alloc _ ?_ ?_); focus (first | (simp; done) | (simp; omega) | omega)) | ((with_reducible refine bl_set _ ?_ ?_); focus (first | (simp; done) | (simp; omega) | omega)) | (with_reducible refine Below.drew ?_) | (with_reducible refine bl_drewN _ ?_)), by simpa using c0, by simpa using c1, by simpa using c2, by simpa using c3⟩
            case measure => simp [intOf]
      · have b1 : decide (0 < s 0) = false := by simpa using p1
        go_wp2_with (first | (go_quiet (fail)))
        all_goals
        go_roundw
        case rel => exact ⟨0+1, by omega, by go_num, by rw [nextTo, HL.out]; unfold nx; congr 1; first | (rw [if_pos (by omega)]) | (rw [if_neg (by omega)]), by (repeat first | (with_reducible assumption) | (with_reducible exact Below.refl _ _) | ((with_reducible refine bl_alloc _ ?_ ?_); focus (first | (simp; done) | (simp; omega) | omega)) | ((with_reducible refine bl_set _ ?_ ?_); focus (first | (simp; done) | (simp; omega) | omega)) | (with_reducible refine Below.drew ?_) | (with_reducible refine bl_drewN _ ?_)), by simpa using c0, by simpa using c1, by simpa using c2, by simpa using c3⟩
        case measure => simp [intOf]
    · by_cases p1 : 0 < s 1
      · have b1 : decide (0 < s 1) = true := by simpa using p1
        by_cases p2 : l = 0
        · have b2 : (l == 0) = true := by simpa using p2
          have p2' : l ≤ 0 ∧ 0 ≤ l := by omega
          clear p2
          go_wp2_with (first | (go_quiet (fail)))
          all_goals
          go_roundw
          case rel => exact ⟨1+1, by omega, by go_num, by rw [nextTo, HL.out]; unfold nx; congr 1; first | (rw [if_pos (by omega)]) | (rw [if_neg (by omega)]), by (repeat first | (with_reducible assumption) | (with_reducible exact Below.refl _ _) | ((with_reducible refine bl_alloc _ ?_ ?_); focus (first | (simp; done) | (simp; omega) | omega)) | ((with_reducible refine bl_set _ ?_ ?_); focus (first | (simp; done) | (simp; omega) | omega)) | (with_reducible refine Below.drew ?_) | (with_reducible refine bl_drewN _ ?_)), by simpa using c0, by simpa using c1, by simpa using c2, by simpa using c3⟩
          case measure => simp [intOf]
        · have b2 : (l == 0) = false := by simpa using p2
          by_cases p3 : s 1 < l
          · have b3 : decide (s 1 < l) = true := by simpa using p3
            go_wp2_with (first | (go_quiet (fail)))
            all_goals
            go_roundw
            case rel => exact ⟨1+1, by omega, by go_num, by rw [nextTo, HL.out]; unfold nx; congr 1; first | (rw [if_pos (by omega)]) | (rw [if_neg (by omega)]), by (repeat first | (with_reducible assumption) | (with_reducible exact Below.refl _ _) | ((with_reducible refine bl_alloc _ ?_ ?_); focus (first | (simp; done) | (simp; omega) | omega)) | ((with_reducible refine bl_set _ ?_ ?_); focus (first | (simp; done) | (simp; omega) | omega)) | (with_reducible refine Below.drew ?_) | (with_reducible refine bl_drewN _ ?_)), by simpa using c0, by simpa using c1, by simpa using c2, by simpa using c3⟩
            case measure => simp [intOf]
          · have b3 : decide (s 1 < l) = false := by simpa using p3
            go_wp2_with (first | (go_quiet (fail)))
            all_goals
            go_roundw
            case rel => exact ⟨1+1, by omega, by go_num, by rw [nextTo, HL.out]; unfold nx; congr 1; first | (rw [if_pos (by omega)]) | (rw [if_neg (by omega)]), by (repeat first | (with_reducible assumption) | (with_reducible exact Below.refl _ _) | ((with_reducible refine bl_alloc _ ?_ ?_); focus (first | (simp; done) | (simp; omega) | omega)) | ((with_reducible refine bl_set _ ?_ ?_); focus (first | (simp; done) | (simp; omega) | omega)) | (with_reducible refine Below.drew ?_) | (with_reducible refine bl_drewN _ ?_)), by simpa using c0, by simpa using c1, by simpa using c2, by simpa using c3⟩
            case measure => simp [intOf]
      · have b1 : decide (0 < s 1) = false := by simpa using p1
        go_wp2_with (first | (go_quiet (fail)))
        all_goals
        go_roundw
        case rel => exact ⟨1+1, by omega, by go_num, by rw [nextTo, HL.out]; unfold nx; congr 1; first | (rw [if_pos (by omega)]) | (rw [if_neg (by omega)]), by (repeat first | (with_reducible assumption) | (with_reducible exact Below.refl _ _) | ((with_reducible refine bl_alloc _ ?_ ?_); focus (first | (simp; done) | (simp; omega) | omega)) | ((with_reducible refine bl_set _ ?_ ?_); focus (first | (simp; done) | (simp; omega) | omega)) | (with_reducible refine Below.drew ?_) | (with_reducible refine bl_drewN _ ?_)), by simpa using c0, by simpa using c1, by simpa using c2, by simpa using c3⟩
        case measure => simp [intOf]
    · by_cases p1 : 0 < s 2
      · have b1 : decide (0 < s 2) = true := by simpa using p1
        by_cases p2 : l = 0
        · have b2 : (l == 0) = true := by simpa using p2
          have p2' : l ≤ 0 ∧ 0 ≤ l := by omega
          clear p2
          go_wp2_with (first | (go_quiet (fail)))
          all_goals
          go_roundw
          case rel => exact ⟨2+1, by omega, by go_num, by rw [nextTo, HL.out]; unfold nx; congr 1; first | (rw [if_pos (by omega)]) | (rw [if_neg (by omega)]), by (repeat first | (with_reducible assumption) | (with_reducible exact Below.refl _ _) | ((with_reducible refine bl_alloc _ ?_ ?_); focus (first | (simp; done) | (simp; omega) | omega)) | ((with_reducible refine bl_set _ ?_ ?_); focus (first | (simp; done) | (simp; omega) | omega)) | (with_reducible refine Below.drew ?_) | (with_reducible refine bl_drewN _ ?_)), by simpa using c0, by simpa using c1, by simpa using c2, by simpa using c3⟩
          case measure => simp [intOf]
        · have b2 : (l == 0) = false := by simpa using p2
          by_cases p3 : s 2 < l
          · have b3 : decide (s 2 < l) = true := by simpa using p3
            go_wp2_with (first | (go_quiet (fail)))
            all_goals
            go_roundw
            case rel => exact ⟨2+1, by omega, by go_num, by rw [nextTo, HL.out]; unfold nx; congr 1; first | (rw [if_pos (by omega)]) | (rw [if_neg (by omega)]), by (repeat first | (with_reducible assumption) | (with_reducible exact Below.refl _ _) | ((with_reducible refine bl_alloc _ ?_ ?_); focus (first | (simp; done) | (simp; omega) | omega)) | ((with_reducible refine bl_set _ ?_ ?_); focus (first | (simp; done) | (simp; omega) | omega)) | (with_reducible refine Below.drew ?_) | (with_reducible refine bl_drewN _ ?_)), by simpa using c0, by simpa using c1, by simpa using c2, by simpa using c3⟩
            case measure => simp [intOf]
          · have b3 : decide (s 2 < l) = false := by simpa using p3
            go_wp2_with (first | (go_quiet (fail)))
            all_goals
            go_roundw
            case rel => exact ⟨2+1, by omega, by go_num, by rw [nextTo, HL.out]; unfold nx; congr 1; first | (rw [if_pos (by omega)]) | (rw [if_neg (by omega)]), by (repeat first | (with_reducible assumption) | (with_reducible exact Below.refl _ _) | ((with_reducible refine bl_alloc _ ?_ ?_); focus (first | (simp; done) | (simp; omega) | omega)) | ((with_reducible refine bl_set _ ?_ ?_); focus (first | (simp; done) | (simp; omega) | omega)) | (with_reducible refine Below.drew ?_) | (with_reducible refine bl_drewN _ ?_)), by simpa using c0, by simpa using c1, by simpa using c2, by simpa using c3⟩
            case measure => simp [intOf]
      · have b1 : decide (0 < s 2) = false := by simpa using p1
        go_wp2_with (first | (go_quiet (fail)))
        all_goals
        go_roundw
        case rel => exact ⟨2+1, by omega, by go_num, by rw [nextTo, HL.out]; unfold nx; congr 1; first | (rw [if_pos (by omega)]) | (rw [if_neg (by omega)]), by (repeat first | (with_reducible assumption) | (with_reducible exact Below.refl _ _) | ((with_reducible refine bl_alloc _ ?_ ?_); focus (first | (simp; done) | (simp; omega) | omega)) | ((with_reducible refine bl_set _ ?_ ?_); focus (first | (simp; done) | (simp; omega) | omega)) | (with_reducible refine Below.drew ?_) | (with_reducible refine bl_drewN _ ?_)), by simpa using c0, by simpa using c1, by simpa using c2, by simpa using c3⟩
        case measure => simp [intOf]
    · by_cases p1 : 0 < s 3
      · have b1 : decide (0 < s 3) = true := by simpa using p1
        by_cases p2 : l = 0
        · have b2 : (l == 0) = true := by simpa using p2
          have p2' : l ≤ 0 ∧ 0 ≤ l := by omega
          clear p2
          go_wp2_with (first | (go_quiet (fail)))
          all_goals
          go_roundw
          case rel => exact ⟨3+1, by omega, by go_num, by rw [nextTo, HL.out]; unfold nx; congr 1; first | (rw [if_pos (by omega)]) | (rw [if_neg (by omega)]), by (repeat first | (with_reducible assumption) | (with_reducible exact Below.refl _ _) | ((with_reducible refine bl_alloc _ ?_ ?_); focus (first | (simp; done) | (simp; omega) | omega)) | ((with_reducible refine bl_set _ ?_ ?_); focus (first | (simp; done) | (simp; omega) | omega)) | (with_reducible refine Below.drew ?_) | (with_reducible refine bl_drewN _ ?_)), by simpa using c0, by simpa using c1, by simpa using c2, by simpa using c3⟩
          case measure => simp [intOf]
        · have b2 : (l == 0) = false := by simpa using p2
          by_cases p3 : s 3 < l
          · have b3 : decide (s 3 < l) = true := by simpa using p3
            go_wp2_with (first | (go_quiet (fail)))
            all_goals
            go_roundw
            case rel => exact ⟨3+1, by omega, by go_num, by rw [nextTo, HL.out]; unfold nx; congr 1; first | (rw [if_pos (by omega)]) | (rw [if_neg (by omega)]), by (repeat first | (with_reducible assumption) | (with_reducible exact Below.refl _ _) | ((with_reducible refine bl_alloc _ ?_ ?_); focus (first | (simp; done) | (simp; omega) | omega)) | ((with_reducible refine bl_set _ ?_ ?_); focus (first | (simp; done) | (simp; omega) | omega)) | (with_reducible refine Below.drew ?_) | (with_reducible refine bl_drewN _ ?_)), by simpa using c0, by simpa using c1, by simpa using c2, by simpa using c3⟩
            case measure => simp [intOf]
          · have b3 : decide (s 3 < l) = false := by simpa using p3
            go_wp2_with (first | (go_quiet (fail)))
            all_goals
            go_roundw
            case rel => exact ⟨3+1, by omega, by go_num, by rw [nextTo, HL.out]; unfold nx; congr 1; first | (rw [if_pos (by omega)]) | (rw [if_neg (by omega)]), by (repeat first | (with_reducible assumption) | (with_reducible exact Below.refl _ _) | ((with_reducible refine bl_alloc _ ?_ ?_); focus (first | (simp; done) | (simp; omega) | omega)) | ((with_reducible refine bl_set _ ?_ ?_); focus (first | (simp; done) | (simp; omega) | omega)) | (with_reducible refine Below.drew ?_) | (with_reducible refine bl_drewN _ ?_)), by simpa using c0, by simpa using c1, by simpa using c2, by simpa using c3⟩
            case measure => simp [intOf]
      · have b1 : decide (0 < s 3) = false := by simpa using p1
        go_wp2_with (first | (go_quiet (fail)))
        all_goals
        go_roundw
        case rel => exact ⟨3+1, by omega, by go_num, by rw [nextTo, HL.out]; unfold nx; congr 1; first | (rw [if_pos (by omega)]) | (rw [if_neg (by omega)]), by (repeat first | (with_reducible assumption) | (with_reducible exact Below.refl _ _) | ((with_reducible refine bl_alloc _ ?_ ?_); focus (first | (simp; done) | (simp; omega) | omega)) | ((with_reducible refine bl_set _ ?_ ?_); focus (first | (simp; done) | (simp; omega) | omega)) | (with_reducible refine Below.drew ?_) | (with_reducible refine bl_drewN _ ?_)), by simpa using c0, by simpa using c1, by simpa using c2, by simpa using c3⟩
        case measure => simp [intOf]
    · go_wp2
      go_ret
      exact ⟨ret_int HL.out.symm, by (repeat first | (with_reducible assumption) | (with_reducible exact Below.refl _ _) | ((with_reducible refine bl_alloc _ ?_ ?_); focus (first | (simp; done) | (simp; omega) | omega)) | ((with_reducible refine bl_set _ ?_ ?_); focus (first | (simp; done) | (simp; omega) | omega)) | (with_reducible refine Below.drew ?_) | (with_reducible refine bl_drewN _ ?_))⟩

theorem step_any (k s : Nat → Int) (set : Int) (hs : Sand k s) (w : World) : Calls Try.prog 66 #[A4 k, A4 s, .int .i64 set] w fun e w' => e = .returned (.tuple #[A4 (stepS k s set), .int .i64 (stepD k s set)]) ∧ Below w.heap.size w w' := by
  have ht := hs.turn set
  have hd := ht.next
  go_enter Try.func66, Try.ntmps66
  go_wp2_with (first | (go_at_call 91; refine (turn_any k s set hs _).mono ?_; rintro e w' ⟨rfl, hb⟩; have hB : Below w.heap.size w w' := Below.trans (by (repeat first | (with_reducible assumption) | (with_reducible exact Below.refl _ _) | ((with_reducible refine bl_alloc _ ?_ ?_); focus (first | (simp; done) | (simp; omega) | omega)) | ((with_reducible refine bl_set _ ?_ ?_); focus (first | (simp; done) | (simp; omega) | omega)) | (with_reducible refine Below.drew ?_) | (with_reducible refine bl_drewN _ ?_))) (hb.mono (by first | (simp; done) | (simp; omega) | omega)); obtain ⟨hc1, hf1⟩ := bcell hb; have hz1 := hb.size; (try simp at hz1); (try have hy0 : w.heap.size < w'.heap.size := by omega); (try have hy1 : w.heap.size + 1 < w'.heap.size := by omega); (try have hy2 : w.heap.size + 1 + 1 < w'.heap.size := by omega); (try have hy3 : w.heap.size + 1 + 1 + 1 < w'.heap.size := by omega); clear hb) | (go_at_call 92; refine (next_any (turnF k s set) _).mono ?_; rintro e w' ⟨rfl, hb⟩; have hB : Below w.heap.size w w' := Below.trans (by (repeat first | (with_reducible assumption) | (with_reducible exact Below.refl _ _) | ((with_reducible refine bl_alloc _ ?_ ?_); focus (first | (simp; done) | (simp; omega) | omega)) | ((with_reducible refine bl_set _ ?_ ?_); focus (first | (simp; done) | (simp; omega) | omega)) | (with_reducible refine Below.drew ?_) | (with_reducible refine bl_drewN _ ?_))) (hb.mono (by first | (simp; done) | (simp; omega) | omega)); obtain ⟨hc2, hf2⟩ := bcell hb; have hz2 := hb.size; (try simp at hz2); (try have hy0 : w.heap.size < w'.heap.size := by omega); (try have hy1 : w.heap.size + 1 < w'.heap.size := by omega); (try have hy2 : w.heap.size + 1 + 1 < w'.heap.size := by omega); (try have hy3 : w.heap.size + 1 + 1 + 1 < w'.heap.size := by omega); clear hb) | (go_at_call 93; refine (pass_any k (turnF k s set) (nextF (turnF k s set)) ht hd.1 _).mono ?_; rintro e w' ⟨rfl, hb⟩; have hB : Below w.heap.size w w' := Below.trans (by (repeat first | (with_reducible assumption) | (with_reducible exact Below.refl _ _) | ((with_reducible refine bl_alloc _ ?_ ?_); focus (first | (simp; done) | (simp; omega) | omega)) | ((with_reducible refine bl_set _ ?_ ?_); focus (first | (simp; done) | (simp; omega) | omega)) | (with_reducible refine Below.drew ?_) | (with_reducible refine bl_drewN _ ?_))) (hb.mono (by first | (simp; done) | (simp; omega) | omega)); obtain ⟨hc3, hf3⟩ := bcell hb; have hz3 := hb.size; (try simp at hz3); (try have hy0 : w.heap.size < w'.heap.size := by omega); (try have hy1 : w.heap.size + 1 < w'.heap.size := by omega); (try have hy2 : w.heap.size + 1 + 1 < w'.heap.size := by omega); (try have hy3 : w.heap.size + 1 + 1 + 1 < w'.heap.size := by omega); clear hb))
  refine bodyPost_ret (v := .tuple #[A4 (stepS k s set), .int .i64 (stepD k s set)]) (by simp [results, Try.results66, go_sem, stepS, stepD, *]) rfl ⟨rfl, by (repeat first | (with_reducible assumption) | (with_reducible exact Below.refl _ _) | ((with_reducible refine bl_alloc _ ?_ ?_); focus (first | (simp; done) | (simp; omega) | omega)) | ((with_reducible refine bl_set _ ?_ ?_); focus (first | (simp; done) | (simp; omega) | omega)) | (with_reducible refine Below.drew ?_) | (with_reducible refine bl_drewN _ ?_))⟩

theorem l2Step_any (k s : Nat → Int) (set : Int) (hs : Sand k s) (w : World) : Calls Try.prog 60 #[A4 k, A4 s, .int .i64 set] w fun e w' => e = .returned (.tuple #[A4 (stepS k s set), .int .i64 (stepD k s set)]) ∧ Below w.heap.size w w' := by
  have ht := hs.turn set
  have hd := ht.next
  go_enter Try.func60, Try.ntmps60
  go_wp2_with (first | (go_at_call 83; refine (l2Turn_any k s set hs _).mono ?_; rintro e w' ⟨rfl, hb⟩; have hB : Below w.heap.size w w' := Below.trans (by (repeat first | (with_reducible assumption) | (with_reducible exact Below.refl _ _) | ((with_reducible refine bl_alloc _ ?_ ?_); focus (first | (simp; done) | (simp; omega) | omega)) | ((with_reducible refine bl_set _ ?_ ?_); focus (first | (simp; done) | (simp; omega) | omega)) | (with_reducible refine Below.drew ?_) | (with_reducible refine bl_drewN _ ?_))) (hb.mono (by first | (simp; done) | (simp; omega) | omega)); obtain ⟨hc1, hf1⟩ := bcell hb; have hz1 := hb.size; (try simp at hz1); (try have hy0 : w.heap.size < w'.heap.size := by omega); (try have hy1 : w.heap.size + 1 < w'.heap.size := by omega); (try have hy2 : w.heap.size + 1 + 1 < w'.heap.size := by omega); (try have hy3 : w.heap.size + 1 + 1 + 1 < w'.heap.size := by omega); clear hb) | (go_at_call 84; refine (l2Next_any (turnF k s set) _).mono ?_; rintro e w' ⟨rfl, hb⟩; have hB : Below w.heap.size w w' := Below.trans (by (repeat first | (with_reducible assumption) | (with_reducible exact Below.refl _ _) | ((with_reducible refine bl_alloc _ ?_ ?_); focus (first | (simp; done) | (simp; omega) | omega)) | ((with_reducible refine bl_set _ ?_ ?_); focus (first | (simp; done) | (simp; omega) | omega)) | (with_reducible refine Below.drew ?_) | (with_reducible refine bl_drewN _ ?_))) (hb.mono (by first | (simp; done) | (simp; omega) | omega)); obtain ⟨hc2, hf2⟩ := bcell hb; have hz2 := hb.size; (try simp at hz2); (try have hy0 : w.heap.size < w'.heap.size := by omega); (try have hy1 : w.heap.size + 1 < w'.heap.size := by omega); (try have hy2 : w.heap.size + 1 + 1 < w'.heap.size := by omega); (try have hy3 : w.heap.size + 1 + 1 + 1 < w'.heap.size := by omega); clear hb) | (go_at_call 85; refine (l2Pass_any k (turnF k s set) (nextF (turnF k s set)) ht hd.1 hd.2 _).mono ?_; rintro e w' ⟨rfl, hb⟩; have hB : Below w.heap.size w w' := Below.trans (by (repeat first | (with_reducible assumption) | (with_reducible exact Below.refl _ _) | ((with_reducible refine bl_alloc _ ?_ ?_); focus (first | (simp; done) | (simp; omega) | omega)) | ((with_reducible refine bl_set _ ?_ ?_); focus (first | (simp; done) | (simp; omega) | omega)) | (with_reducible refine Below.drew ?_) | (with_reducible refine bl_drewN _ ?_))) (hb.mono (by first | (simp; done) | (simp; omega) | omega)); obtain ⟨hc3, hf3⟩ := bcell hb; have hz3 := hb.size; (try simp at hz3); (try have hy0 : w.heap.size < w'.heap.size := by omega); (try have hy1 : w.heap.size + 1 < w'.heap.size := by omega); (try have hy2 : w.heap.size + 1 + 1 < w'.heap.size := by omega); (try have hy3 : w.heap.size + 1 + 1 + 1 < w'.heap.size := by omega); clear hb))
  refine bodyPost_ret (v := .tuple #[A4 (stepS k s set), .int .i64 (stepD k s set)]) (by simp [results, Try.results60, go_sem, stepS, stepD, *]) rfl ⟨rfl, by (repeat first | (with_reducible assumption) | (with_reducible exact Below.refl _ _) | ((with_reducible refine bl_alloc _ ?_ ?_); focus (first | (simp; done) | (simp; omega) | omega)) | ((with_reducible refine bl_set _ ?_ ?_); focus (first | (simp; done) | (simp; omega) | omega)) | (with_reducible refine Below.drew ?_) | (with_reducible refine bl_drewN _ ?_))⟩

end Go.Proofs.Ytlhodfjdmafapaa
