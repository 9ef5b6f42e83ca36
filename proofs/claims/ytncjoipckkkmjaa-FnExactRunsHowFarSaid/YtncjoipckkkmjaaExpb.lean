/- Contracts: greatest common divisors, running sets, scaled kits, moments and steps. No statement of the seat is proved here. -/
import Derived.Test.YtncjoipckkkmjaaExp
import Derived.Test.YtncjoipckkkmjaaBaseTwo
import Derived.Deep.RegionHeld3
namespace Go.Proofs.Ytncjoipckkkmjaa
open Go.RowKit
set_option linter.unusedVariables false

theorem l2Sand_sw (k s : Nat → Int) (w : World) : Calls Try.prog 49 #[A4 k, A4 s] w fun e w' => e = .returned (.bool (isKitB k && isSandB k s)) ∧ Below w.heap.size w w' := by
  rw [Bool.and_comm]; exact l2Sand_any k s w

theorem ret_pair {a b : Int} {x : Bool} (h : a = b) : Ending.returned (.tuple #[.int .i64 a, .bool x]) = .returned (.tuple #[.int .i64 b, .bool x]) := by rw [h]

theorem gcd_any (a b : Int) (ha : 0 ≤ a) (ha2 : a ≤ 30) (hb : 0 ≤ b) (hb2 : b ≤ 30) (w : World) : Calls Try.prog 62 #[.int .i64 a, .int .i64 b] w fun e w' => e = .returned (.int .i64 (gcdF a b)) ∧ ∃ n, w' = w.drewN n := by
  go_enter Try.func62, Try.ntmps62
  go_wp2_with fail
  go_loopw [0, 1] (fun x y wr => ∃ p q : Int, 0 ≤ p ∧ p ≤ 30 ∧ 0 ≤ q ∧ q ≤ 30 ∧ x = .int .i64 p ∧ y = .int .i64 q ∧ gcdF p q = gcdF a b ∧ ∃ n, wr = w.drewN n) (fun _ y _ => (intOf y).toNat)
  case atStart => exact ⟨a, b, ha, ha2, hb, hb2, rfl, rfl, rfl, 0, rfl⟩
  case round =>
    obtain ⟨p, q, hp, hp2, hq, hq2, rfl, rfl, hg, n, rfl⟩ := hrel
    have HG : Hid (gcdF p q = gcdF a b) := hg
    clear hg
    by_cases h0 : 1 ≤ q
    · have hm1 := Int.emod_nonneg p (show q ≠ 0 by omega)
      have hm2 := Int.emod_lt_of_pos p (show 0 < q by omega)
      have b0 : (q != 0) = true := by rw [bne_iff_ne]; omega
      have b1 : (q == 0) = false := by simp; omega
      go_wp2_with (first | (go_quiet (fail)))
      go_roundw
      case rel => exact ⟨q, p % q, by omega, by omega, hm1, by omega, rfl, rfl, (gcdF_step hp (by omega)).trans HG.out, _, World.drewN_drewN _ _ _⟩
      case measure => simp [intOf]; omega
    · have b0 : (q != 0) = false := by simp; omega
      have e0 : q = 0 := by omega
      have HE : Hid (q = 0) := e0
      clear e0
      go_wp2_with fail
      go_ret
      exact ⟨ret_int (by rw [← HG.out, HE.out, gcdF_zero hp]), n, rfl⟩

theorem l2Gcd_any (a b : Int) (ha : 0 ≤ a) (ha2 : a ≤ 30) (hb : 0 ≤ b) (hb2 : b ≤ 30) (w : World) : Calls Try.prog 58 #[.int .i64 a, .int .i64 b] w fun e w' => e = .returned (.int .i64 (gcdF a b)) ∧ ∃ n, w' = w.drewN n := by
  go_enter Try.func58, Try.ntmps58
  go_wp2_with fail
  go_loopw [0, 1] (fun x y wr => ∃ p q : Int, 0 ≤ p ∧ p ≤ 30 ∧ 0 ≤ q ∧ q ≤ 30 ∧ x = .int .i64 p ∧ y = .int .i64 q ∧ gcdF p q = gcdF a b ∧ ∃ n, wr = w.drewN n) (fun _ y _ => (intOf y).toNat)
  case atStart => exact ⟨a, b, ha, ha2, hb, hb2, rfl, rfl, rfl, 0, rfl⟩
  case round =>
    obtain ⟨p, q, hp, hp2, hq, hq2, rfl, rfl, hg, n, rfl⟩ := hrel
    have HG : Hid (gcdF p q = gcdF a b) := hg
    clear hg
    by_cases h0 : 1 ≤ q
    · have hm1 := Int.emod_nonneg p (show q ≠ 0 by omega)
      have hm2 := Int.emod_lt_of_pos p (show 0 < q by omega)
      have b0 : (q != 0) = true := by rw [bne_iff_ne]; omega
      have b1 : (q == 0) = false := by simp; omega
      go_wp2_with (first | (go_quiet (fail)))
      go_roundw
      case rel => exact ⟨q, p % q, by omega, by omega, hm1, by omega, rfl, rfl, (gcdF_step hp (by omega)).trans HG.out, _, World.drewN_drewN _ _ _⟩
      case measure => simp [intOf]; omega
    · have b0 : (q != 0) = false := by simp; omega
      have e0 : q = 0 := by omega
      have HE : Hid (q = 0) := e0
      clear e0
      go_wp2_with fail
      go_ret
      exact ⟨ret_int (by rw [← HG.out, HE.out, gcdF_zero hp]), n, rfl⟩

theorem running_any (s : Nat → Int) (w : World) : Calls Try.prog 51 #[A4 s] w fun e w' => e = .returned (.int .i64 (allOf s)) ∧ Below w.heap.size w w' := by
  have i0 : ∀ w : World, (Instr.index 22 (A4 s) (.int .i64 0)).run Try.prog w = .ok (.int .i64 (s 0)) w := fun _ => by kernel_rfl
  have i1 : ∀ w : World, (Instr.index 22 (A4 s) (.int .i64 1)).run Try.prog w = .ok (.int .i64 (s 1)) w := fun _ => by kernel_rfl
  have i2 : ∀ w : World, (Instr.index 22 (A4 s) (.int .i64 2)).run Try.prog w = .ok (.int .i64 (s 2)) w := fun _ => by kernel_rfl
  have i3 : ∀ w : World, (Instr.index 22 (A4 s) (.int .i64 3)).run Try.prog w = .ok (.int .i64 (s 3)) w := fun _ => by kernel_rfl
  go_enter Try.func51, Try.ntmps51
  go_wp2_with fail
  refine wp_loop_rounds 5 ?_
  go_wp2_with (first | (rw [rounds_succ]))
  all_goals (go_ret; exact ⟨ret_int (by unfold allOf; (iterate 4 (first | rw [if_pos (by assumption)] | rw [if_neg (by omega)])); try first | rfl | decide), by (repeat first | (with_reducible assumption) | (with_reducible exact Below.refl _ _) | ((with_reducible refine bl_alloc _ ?_ ?_); focus (first | (simp; done) | (simp; omega) | omega)) | ((with_reducible refine bl_set _ ?_ ?_); focus (first | (simp; done) | (simp; omega) | omega)) | (with_reducible refine Below.drew ?_) | (with_reducible refine bl_drewN _ ?_))⟩)

theorem RunningSet_any (k s : Nat → Int) (w : World) : Calls Try.prog 18 #[A4 k, A4 s] w fun e w' => e = .returned (.tuple #[.int .i64 (optI (allOf s) (isKitB k && isSandB k s)), .bool (isKitB k && isSandB k s)]) ∧ Below w.heap.size w w' := by
  cases h1 : isKitB k <;> cases h2 : isSandB k s
  all_goals
    go_enter Try.func18, Try.ntmps18
    go_wp2_with (first | (go_at_call 50; refine (areSand_any k s _).mono ?_; rintro e w' ⟨rfl, hb⟩; have hB : Below w.heap.size w w' := Below.trans (by (repeat first | (with_reducible assumption) | (with_reducible exact Below.refl _ _) | ((with_reducible refine bl_alloc _ ?_ ?_); focus (first | (simp; done) | (simp; omega) | omega)) | ((with_reducible refine bl_set _ ?_ ?_); focus (first | (simp; done) | (simp; omega) | omega)) | (with_reducible refine Below.drew ?_) | (with_reducible refine bl_drewN _ ?_))) (hb.mono (by first | (simp; done) | (simp; omega) | omega)); obtain ⟨hc, hf⟩ := bcell hb; have hz := hb.size; (try simp at hz); (try have hy0 : w.heap.size < w'.heap.size := by omega); (try have hy1 : w.heap.size + 1 < w'.heap.size := by omega); (try have hy2 : w.heap.size + 1 + 1 < w'.heap.size := by omega); (try have hy3 : w.heap.size + 1 + 1 + 1 < w'.heap.size := by omega); clear hb) | (go_at_call 51; refine (running_any s _).mono ?_; rintro e w' ⟨rfl, hb⟩; have hB : Below w.heap.size w w' := Below.trans (by (repeat first | (with_reducible assumption) | (with_reducible exact Below.refl _ _) | ((with_reducible refine bl_alloc _ ?_ ?_); focus (first | (simp; done) | (simp; omega) | omega)) | ((with_reducible refine bl_set _ ?_ ?_); focus (first | (simp; done) | (simp; omega) | omega)) | (with_reducible refine Below.drew ?_) | (with_reducible refine bl_drewN _ ?_))) (hb.mono (by first | (simp; done) | (simp; omega) | omega)); obtain ⟨hc2, hf2⟩ := bcell hb; have hz2 := hb.size; (try simp at hz2); (try have hy0 : w.heap.size < w'.heap.size := by omega); (try have hy1 : w.heap.size + 1 < w'.heap.size := by omega); (try have hy2 : w.heap.size + 1 + 1 < w'.heap.size := by omega); (try have hy3 : w.heap.size + 1 + 1 + 1 < w'.heap.size := by omega); clear hb))
    all_goals (go_ret2; exact ⟨by simp [optI, *], by (repeat first | (with_reducible assumption) | (with_reducible exact Below.refl _ _) | ((with_reducible refine bl_alloc _ ?_ ?_); focus (first | (simp; done) | (simp; omega) | omega)) | ((with_reducible refine bl_set _ ?_ ?_); focus (first | (simp; done) | (simp; omega) | omega)) | (with_reducible refine Below.drew ?_) | (with_reducible refine bl_drewN _ ?_))⟩)

theorem specRunningSet_any (k s : Nat → Int) (w : World) : Calls Try.prog 15 #[A4 k, A4 s] w fun e w' => e = .returned (.tuple #[.int .i64 (optI (allOf s) (isKitB k && isSandB k s)), .bool (isKitB k && isSandB k s)]) ∧ Below w.heap.size w w' := by
  cases h1 : (isKitB k && isSandB k s)
  · go_enter Try.func15, Try.ntmps15
    go_wp2_with (first | (go_at_call 49; refine ((h1 ▸ l2Sand_sw k s _)).mono ?_; rintro e w' ⟨rfl, hb⟩; have hB : Below w.heap.size w w' := Below.trans (by (repeat first | (with_reducible assumption) | (with_reducible exact Below.refl _ _) | ((with_reducible refine bl_alloc _ ?_ ?_); focus (first | (simp; done) | (simp; omega) | omega)) | ((with_reducible refine bl_set _ ?_ ?_); focus (first | (simp; done) | (simp; omega) | omega)) | (with_reducible refine Below.drew ?_) | (with_reducible refine bl_drewN _ ?_))) (hb.mono (by first | (simp; done) | (simp; omega) | omega)); obtain ⟨hc, hf⟩ := bcell hb; have hz := hb.size; (try simp at hz); (try have hy0 : w.heap.size < w'.heap.size := by omega); (try have hy1 : w.heap.size + 1 < w'.heap.size := by omega); (try have hy2 : w.heap.size + 1 + 1 < w'.heap.size := by omega); (try have hy3 : w.heap.size + 1 + 1 + 1 < w'.heap.size := by omega); clear hb))
    all_goals (go_ret2; exact ⟨by simp [optI, *], by (repeat first | (with_reducible assumption) | (with_reducible exact Below.refl _ _) | ((with_reducible refine bl_alloc _ ?_ ?_); focus (first | (simp; done) | (simp; omega) | omega)) | ((with_reducible refine bl_set _ ?_ ?_); focus (first | (simp; done) | (simp; omega) | omega)) | (with_reducible refine Below.drew ?_) | (with_reducible refine bl_drewN _ ?_))⟩)
  · go_enter Try.func15, Try.ntmps15
    go_wp2_with fail
    refine (h1 ▸ l2Sand_sw k s _).mono ?_
    rintro e w1 ⟨rfl, hb1⟩
    have c0 : w1.cell? ⟨w.heap.size + 1, 0, none⟩ = some (.int .i64 (s 0)) := keep_below hb1 (by simp [go_sem])
    have c1 : w1.cell? ⟨w.heap.size + 1, 1, none⟩ = some (.int .i64 (s 1)) := keep_below hb1 (by simp [go_sem])
    have c2 : w1.cell? ⟨w.heap.size + 1, 2, none⟩ = some (.int .i64 (s 2)) := keep_below hb1 (by simp [go_sem])
    have c3 : w1.cell? ⟨w.heap.size + 1, 3, none⟩ = some (.int .i64 (s 3)) := keep_below hb1 (by simp [go_sem])
    have y1 := there c0
    have B1 : Below w.heap.size w w1 := below_chain (by (repeat first | (with_reducible assumption) | (with_reducible exact Below.refl _ _) | ((with_reducible refine bl_alloc _ ?_ ?_); focus (first | (simp; done) | (simp; omega) | omega)) | ((with_reducible refine bl_set _ ?_ ?_); focus (first | (simp; done) | (simp; omega) | omega)) | (with_reducible refine Below.drew ?_) | (with_reducible refine bl_drewN _ ?_))) hb1
    clear hb1
    go_wp2_with fail
    refine wp_loop_rounds 5 ?_
    go_wp2_with (first | (rw [rounds_succ]))
    all_goals (go_ret2; exact ⟨ret_pair (by unfold optI; rw [if_pos rfl]; unfold allOf; (iterate 4 (first | rw [if_pos (by assumption)] | rw [if_neg (by omega)])); try first | rfl | decide), by (repeat first | (with_reducible assumption) | (with_reducible exact Below.refl _ _) | ((with_reducible refine bl_alloc _ ?_ ?_); focus (first | (simp; done) | (simp; omega) | omega)) | ((with_reducible refine bl_set _ ?_ ?_); focus (first | (simp; done) | (simp; omega) | omega)) | (with_reducible refine Below.drew ?_) | (with_reducible refine bl_drewN _ ?_))⟩)

theorem NextMoment_any (k s : Nat → Int) (w : World) : Calls Try.prog 25 #[A4 k, A4 s] w fun e w' => e = .returned (.tuple #[.int .i64 (optI (nextF s) (isKitB k && isSandB k s)), .bool ((isKitB k && isSandB k s) && decide (0 < nextF s))]) ∧ Below w.heap.size w w' := by
  cases h1 : isKitB k <;> cases h2 : isSandB k s
  all_goals
    go_enter Try.func25, Try.ntmps25
    go_wp2_with (first | (go_at_call 50; refine (areSand_any k s _).mono ?_; rintro e w' ⟨rfl, hb⟩; have hB : Below w.heap.size w w' := Below.trans (by (repeat first | (with_reducible assumption) | (with_reducible exact Below.refl _ _) | ((with_reducible refine bl_alloc _ ?_ ?_); focus (first | (simp; done) | (simp; omega) | omega)) | ((with_reducible refine bl_set _ ?_ ?_); focus (first | (simp; done) | (simp; omega) | omega)) | (with_reducible refine Below.drew ?_) | (with_reducible refine bl_drewN _ ?_))) (hb.mono (by first | (simp; done) | (simp; omega) | omega)); obtain ⟨hc, hf⟩ := bcell hb; have hz := hb.size; (try simp at hz); (try have hy0 : w.heap.size < w'.heap.size := by omega); (try have hy1 : w.heap.size + 1 < w'.heap.size := by omega); (try have hy2 : w.heap.size + 1 + 1 < w'.heap.size := by omega); (try have hy3 : w.heap.size + 1 + 1 + 1 < w'.heap.size := by omega); clear hb) | (go_at_call 61; refine (next_any s _).mono ?_; rintro e w' ⟨rfl, hb⟩; have hB : Below w.heap.size w w' := Below.trans (by (repeat first | (with_reducible assumption) | (with_reducible exact Below.refl _ _) | ((with_reducible refine bl_alloc _ ?_ ?_); focus (first | (simp; done) | (simp; omega) | omega)) | ((with_reducible refine bl_set _ ?_ ?_); focus (first | (simp; done) | (simp; omega) | omega)) | (with_reducible refine Below.drew ?_) | (with_reducible refine bl_drewN _ ?_))) (hb.mono (by first | (simp; done) | (simp; omega) | omega)); obtain ⟨hc2, hf2⟩ := bcell hb; have hz2 := hb.size; (try simp at hz2); (try have hy0 : w.heap.size < w'.heap.size := by omega); (try have hy1 : w.heap.size + 1 < w'.heap.size := by omega); (try have hy2 : w.heap.size + 1 + 1 < w'.heap.size := by omega); (try have hy3 : w.heap.size + 1 + 1 + 1 < w'.heap.size := by omega); clear hb))
    all_goals (go_ret2; exact ⟨by simp [optI, *], by (repeat first | (with_reducible assumption) | (with_reducible exact Below.refl _ _) | ((with_reducible refine bl_alloc _ ?_ ?_); focus (first | (simp; done) | (simp; omega) | omega)) | ((with_reducible refine bl_set _ ?_ ?_); focus (first | (simp; done) | (simp; omega) | omega)) | (with_reducible refine Below.drew ?_) | (with_reducible refine bl_drewN _ ?_))⟩)

theorem specNextMoment_any (k s : Nat → Int) (w : World) : Calls Try.prog 24 #[A4 k, A4 s] w fun e w' => e = .returned (.tuple #[.int .i64 (optI (nextF s) (isKitB k && isSandB k s)), .bool ((isKitB k && isSandB k s) && decide (0 < nextF s))]) ∧ Below w.heap.size w w' := by
  cases h1 : (isKitB k && isSandB k s)
  · go_enter Try.func24, Try.ntmps24
    go_wp2_with (first | (go_at_call 49; refine ((h1 ▸ l2Sand_sw k s _)).mono ?_; rintro e w' ⟨rfl, hb⟩; have hB : Below w.heap.size w w' := Below.trans (by (repeat first | (with_reducible assumption) | (with_reducible exact Below.refl _ _) | ((with_reducible refine bl_alloc _ ?_ ?_); focus (first | (simp; done) | (simp; omega) | omega)) | ((with_reducible refine bl_set _ ?_ ?_); focus (first | (simp; done) | (simp; omega) | omega)) | (with_reducible refine Below.drew ?_) | (with_reducible refine bl_drewN _ ?_))) (hb.mono (by first | (simp; done) | (simp; omega) | omega)); obtain ⟨hc, hf⟩ := bcell hb; have hz := hb.size; (try simp at hz); (try have hy0 : w.heap.size < w'.heap.size := by omega); (try have hy1 : w.heap.size + 1 < w'.heap.size := by omega); (try have hy2 : w.heap.size + 1 + 1 < w'.heap.size := by omega); (try have hy3 : w.heap.size + 1 + 1 + 1 < w'.heap.size := by omega); clear hb))
    all_goals (go_ret2; exact ⟨by simp [optI, *], by (repeat first | (with_reducible assumption) | (with_reducible exact Below.refl _ _) | ((with_reducible refine bl_alloc _ ?_ ?_); focus (first | (simp; done) | (simp; omega) | omega)) | ((with_reducible refine bl_set _ ?_ ?_); focus (first | (simp; done) | (simp; omega) | omega)) | (with_reducible refine Below.drew ?_) | (with_reducible refine bl_drewN _ ?_))⟩)
  · have hn := (sand_of (by simp_all) (by simp_all) : Sand k s).next
    go_enter Try.func24, Try.ntmps24
    go_wp2_with fail
    refine (h1 ▸ l2Sand_sw k s _).mono ?_
    rintro e w1 ⟨rfl, hb1⟩
    have cw100 : w1.cell? ⟨w.heap.size + 1, 0, none⟩ = some (.int .i64 (s 0)) := keep_below hb1 (by first | (with_reducible assumption) | (simp [go_sem]; done) | (simp [go_sem, *]; done))
    have cw101 : w1.cell? ⟨w.heap.size + 1, 1, none⟩ = some (.int .i64 (s 1)) := keep_below hb1 (by first | (with_reducible assumption) | (simp [go_sem]; done) | (simp [go_sem, *]; done))
    have cw102 : w1.cell? ⟨w.heap.size + 1, 2, none⟩ = some (.int .i64 (s 2)) := keep_below hb1 (by first | (with_reducible assumption) | (simp [go_sem]; done) | (simp [go_sem, *]; done))
    have cw103 : w1.cell? ⟨w.heap.size + 1, 3, none⟩ = some (.int .i64 (s 3)) := keep_below hb1 (by first | (with_reducible assumption) | (simp [go_sem]; done) | (simp [go_sem, *]; done))
    have yw10 := there cw100
    have Bw1 : Below w.heap.size w w1 := below_chain (by (repeat first | (with_reducible assumption) | (with_reducible exact Below.refl _ _) | ((with_reducible refine bl_alloc _ ?_ ?_); focus (first | (simp; done) | (simp; omega) | omega)) | ((with_reducible refine bl_set _ ?_ ?_); focus (first | (simp; done) | (simp; omega) | omega)) | (with_reducible refine Below.drew ?_) | (with_reducible refine bl_drewN _ ?_))) hb1
    clear hb1
    go_wp2_with fail
    refine (l2Next_any s _).mono ?_
    rintro e w2 ⟨rfl, hb2⟩
    have cw200 : w2.cell? ⟨w.heap.size + 1, 0, none⟩ = some (.int .i64 (s 0)) := keep_below hb2 (by first | (with_reducible assumption) | (simp [go_sem]; done) | (simp [go_sem, *]; done))
    have cw201 : w2.cell? ⟨w.heap.size + 1, 1, none⟩ = some (.int .i64 (s 1)) := keep_below hb2 (by first | (with_reducible assumption) | (simp [go_sem]; done) | (simp [go_sem, *]; done))
    have cw202 : w2.cell? ⟨w.heap.size + 1, 2, none⟩ = some (.int .i64 (s 2)) := keep_below hb2 (by first | (with_reducible assumption) | (simp [go_sem]; done) | (simp [go_sem, *]; done))
    have cw203 : w2.cell? ⟨w.heap.size + 1, 3, none⟩ = some (.int .i64 (s 3)) := keep_below hb2 (by first | (with_reducible assumption) | (simp [go_sem]; done) | (simp [go_sem, *]; done))
    have yw20 := there cw200
    have Bw2 : Below w.heap.size w w2 := below_chain (by (repeat first | (with_reducible assumption) | (with_reducible exact Below.refl _ _) | ((with_reducible refine bl_alloc _ ?_ ?_); focus (first | (simp; done) | (simp; omega) | omega)) | ((with_reducible refine bl_set _ ?_ ?_); focus (first | (simp; done) | (simp; omega) | omega)) | (with_reducible refine Below.drew ?_) | (with_reducible refine bl_drewN _ ?_))) hb2
    clear hb2
    by_cases h3 : nextF s = 0
    · have h3b : (nextF s == 0) = true := by simp [h3]
      have H3 : Hid (nextF s = 0) := h3
      clear h3
      go_wp2_with fail
      go_ret2
      exact ⟨by simp [optI, H3.out], by (repeat first | (with_reducible assumption) | (with_reducible exact Below.refl _ _) | ((with_reducible refine bl_alloc _ ?_ ?_); focus (first | (simp; done) | (simp; omega) | omega)) | ((with_reducible refine bl_set _ ?_ ?_); focus (first | (simp; done) | (simp; omega) | omega)) | (with_reducible refine Below.drew ?_) | (with_reducible refine bl_drewN _ ?_))⟩
    · have h3b : (nextF s == 0) = false := by simp [h3]
      have h4 : 0 < nextF s := by omega
      clear h3
      go_wp2_with fail
      refine (l2Next_any s _).mono ?_
      rintro e w3 ⟨rfl, hb3⟩
      have B3 : Below w.heap.size w w3 := below_chain (by (repeat first | (with_reducible assumption) | (with_reducible exact Below.refl _ _) | ((with_reducible refine bl_alloc _ ?_ ?_); focus (first | (simp; done) | (simp; omega) | omega)) | ((with_reducible refine bl_set _ ?_ ?_); focus (first | (simp; done) | (simp; omega) | omega)) | (with_reducible refine Below.drew ?_) | (with_reducible refine bl_drewN _ ?_))) hb3
      clear hb3
      go_wp2_with fail
      go_ret2
      exact ⟨by simp [optI, h4], by (repeat first | (with_reducible assumption) | (with_reducible exact Below.refl _ _) | ((with_reducible refine bl_alloc _ ?_ ?_); focus (first | (simp; done) | (simp; omega) | omega)) | ((with_reducible refine bl_set _ ?_ ?_); focus (first | (simp; done) | (simp; omega) | omega)) | (with_reducible refine Below.drew ?_) | (with_reducible refine bl_drewN _ ?_))⟩

theorem l2Pass_min (k s : Nat → Int) (d : Int) (hs : Sand k s) (hd : 0 ≤ d) (w : World) : Calls Try.prog 63 #[A4 s, .int .i64 (min d 30)] w fun e w' => e = .returned (A4 (passF s d)) ∧ Below w.heap.size w w' := by
  have pe : ∀ i, i < 4 → passF s (min d 30) i = passF s d i := fun i hi => by have := hs.hi i hi; have := hs.top i hi; unfold passF; omega
  have h := l2Pass_any k s (min d 30) hs (by omega) (by omega) w
  unfold A4 at h ⊢
  rw [pe 0 (by omega), pe 1 (by omega), pe 2 (by omega), pe 3 (by omega)] at h
  exact h

set_option maxHeartbeats 400000 in
theorem PassMinutes_any (k s : Nat → Int) (d : Int) (w : World) : Calls Try.prog 29 #[A4 k, A4 s, .int .i64 d] w fun e w' => e = .returned (.tuple #[A4 (opt (passF s d) (isKitB k && isSandB k s && decide (0 ≤ d))), .bool (isKitB k && isSandB k s && decide (0 ≤ d))]) ∧ Below w.heap.size w w' := by
  cases h1 : isKitB k <;> cases h2 : isSandB k s
  case true.true =>
    have hs := sand_of h1 h2
    by_cases hd : 0 ≤ d
    · go_enter Try.func29, Try.ntmps29
      go_wp2_with (first | (go_at_call 50; refine (areSand_any k s _).mono ?_; rintro e w' ⟨rfl, hb⟩; have hB : Below w.heap.size w w' := Below.trans (by (repeat first | (with_reducible assumption) | (with_reducible exact Below.refl _ _) | ((with_reducible refine bl_alloc _ ?_ ?_); focus (first | (simp; done) | (simp; omega) | omega)) | ((with_reducible refine bl_set _ ?_ ?_); focus (first | (simp; done) | (simp; omega) | omega)) | (with_reducible refine Below.drew ?_) | (with_reducible refine bl_drewN _ ?_))) (hb.mono (by first | (simp; done) | (simp; omega) | omega)); obtain ⟨hc, hf⟩ := bcell hb; have hz := hb.size; (try simp at hz); (try have hy0 : w.heap.size < w'.heap.size := by omega); (try have hy1 : w.heap.size + 1 < w'.heap.size := by omega); (try have hy2 : w.heap.size + 1 + 1 < w'.heap.size := by omega); (try have hy3 : w.heap.size + 1 + 1 + 1 < w'.heap.size := by omega); clear hb) | (go_at_call 65; refine (pass_any k s d hs hd _).mono ?_; rintro e w' ⟨rfl, hb⟩; have hB : Below w.heap.size w w' := Below.trans (by (repeat first | (with_reducible assumption) | (with_reducible exact Below.refl _ _) | ((with_reducible refine bl_alloc _ ?_ ?_); focus (first | (simp; done) | (simp; omega) | omega)) | ((with_reducible refine bl_set _ ?_ ?_); focus (first | (simp; done) | (simp; omega) | omega)) | (with_reducible refine Below.drew ?_) | (with_reducible refine bl_drewN _ ?_))) (hb.mono (by first | (simp; done) | (simp; omega) | omega)); obtain ⟨hc2, hf2⟩ := bcell hb; have hz2 := hb.size; (try simp at hz2); (try have hy0 : w.heap.size < w'.heap.size := by omega); (try have hy1 : w.heap.size + 1 < w'.heap.size := by omega); (try have hy2 : w.heap.size + 1 + 1 < w'.heap.size := by omega); (try have hy3 : w.heap.size + 1 + 1 + 1 < w'.heap.size := by omega); clear hb))
      refine bodyPost_ret (v := .tuple #[A4 (opt (passF s d) (isKitB k && isSandB k s && decide (0 ≤ d))), .bool (isKitB k && isSandB k s && decide (0 ≤ d))]) (by simp [results, Try.results29, go_sem, opt, *]) rfl ⟨by simp [*], by (repeat first | (with_reducible assumption) | (with_reducible exact Below.refl _ _) | ((with_reducible refine bl_alloc _ ?_ ?_); focus (first | (simp; done) | (simp; omega) | omega)) | ((with_reducible refine bl_set _ ?_ ?_); focus (first | (simp; done) | (simp; omega) | omega)) | (with_reducible refine Below.drew ?_) | (with_reducible refine bl_drewN _ ?_))⟩
    · have hd : d < 0 := by omega
      go_enter Try.func29, Try.ntmps29
      go_wp2_with (first | (go_at_call 50; refine (areSand_any k s _).mono ?_; rintro e w' ⟨rfl, hb⟩; have hB : Below w.heap.size w w' := Below.trans (by (repeat first | (with_reducible assumption) | (with_reducible exact Below.refl _ _) | ((with_reducible refine bl_alloc _ ?_ ?_); focus (first | (simp; done) | (simp; omega) | omega)) | ((with_reducible refine bl_set _ ?_ ?_); focus (first | (simp; done) | (simp; omega) | omega)) | (with_reducible refine Below.drew ?_) | (with_reducible refine bl_drewN _ ?_))) (hb.mono (by first | (simp; done) | (simp; omega) | omega)); obtain ⟨hc, hf⟩ := bcell hb; have hz := hb.size; (try simp at hz); (try have hy0 : w.heap.size < w'.heap.size := by omega); (try have hy1 : w.heap.size + 1 < w'.heap.size := by omega); (try have hy2 : w.heap.size + 1 + 1 < w'.heap.size := by omega); (try have hy3 : w.heap.size + 1 + 1 + 1 < w'.heap.size := by omega); clear hb) | (go_at_call 65; refine (pass_any k s d hs hd _).mono ?_; rintro e w' ⟨rfl, hb⟩; have hB : Below w.heap.size w w' := Below.trans (by (repeat first | (with_reducible assumption) | (with_reducible exact Below.refl _ _) | ((with_reducible refine bl_alloc _ ?_ ?_); focus (first | (simp; done) | (simp; omega) | omega)) | ((with_reducible refine bl_set _ ?_ ?_); focus (first | (simp; done) | (simp; omega) | omega)) | (with_reducible refine Below.drew ?_) | (with_reducible refine bl_drewN _ ?_))) (hb.mono (by first | (simp; done) | (simp; omega) | omega)); obtain ⟨hc2, hf2⟩ := bcell hb; have hz2 := hb.size; (try simp at hz2); (try have hy0 : w.heap.size < w'.heap.size := by omega); (try have hy1 : w.heap.size + 1 < w'.heap.size := by omega); (try have hy2 : w.heap.size + 1 + 1 < w'.heap.size := by omega); (try have hy3 : w.heap.size + 1 + 1 + 1 < w'.heap.size := by omega); clear hb))
      refine bodyPost_ret (v := .tuple #[A4 (opt (passF s d) (isKitB k && isSandB k s && decide (0 ≤ d))), .bool (isKitB k && isSandB k s && decide (0 ≤ d))]) (by simp [results, Try.results29, go_sem, opt, Int.not_le.2 hd, *]) rfl ⟨by simp [Int.not_le.2 hd, *], by (repeat first | (with_reducible assumption) | (with_reducible exact Below.refl _ _) | ((with_reducible refine bl_alloc _ ?_ ?_); focus (first | (simp; done) | (simp; omega) | omega)) | ((with_reducible refine bl_set _ ?_ ?_); focus (first | (simp; done) | (simp; omega) | omega)) | (with_reducible refine Below.drew ?_) | (with_reducible refine bl_drewN _ ?_))⟩
  all_goals
    go_enter Try.func29, Try.ntmps29
    go_wp2_with (first | (go_at_call 50; refine (areSand_any k s _).mono ?_; rintro e w' ⟨rfl, hb⟩; have hB : Below w.heap.size w w' := Below.trans (by (repeat first | (with_reducible assumption) | (with_reducible exact Below.refl _ _) | ((with_reducible refine bl_alloc _ ?_ ?_); focus (first | (simp; done) | (simp; omega) | omega)) | ((with_reducible refine bl_set _ ?_ ?_); focus (first | (simp; done) | (simp; omega) | omega)) | (with_reducible refine Below.drew ?_) | (with_reducible refine bl_drewN _ ?_))) (hb.mono (by first | (simp; done) | (simp; omega) | omega)); obtain ⟨hc, hf⟩ := bcell hb; have hz := hb.size; (try simp at hz); (try have hy0 : w.heap.size < w'.heap.size := by omega); (try have hy1 : w.heap.size + 1 < w'.heap.size := by omega); (try have hy2 : w.heap.size + 1 + 1 < w'.heap.size := by omega); (try have hy3 : w.heap.size + 1 + 1 + 1 < w'.heap.size := by omega); clear hb) | (go_at_call 65; refine (pass_any k s d hs hd _).mono ?_; rintro e w' ⟨rfl, hb⟩; have hB : Below w.heap.size w w' := Below.trans (by (repeat first | (with_reducible assumption) | (with_reducible exact Below.refl _ _) | ((with_reducible refine bl_alloc _ ?_ ?_); focus (first | (simp; done) | (simp; omega) | omega)) | ((with_reducible refine bl_set _ ?_ ?_); focus (first | (simp; done) | (simp; omega) | omega)) | (with_reducible refine Below.drew ?_) | (with_reducible refine bl_drewN _ ?_))) (hb.mono (by first | (simp; done) | (simp; omega) | omega)); obtain ⟨hc2, hf2⟩ := bcell hb; have hz2 := hb.size; (try simp at hz2); (try have hy0 : w.heap.size < w'.heap.size := by omega); (try have hy1 : w.heap.size + 1 < w'.heap.size := by omega); (try have hy2 : w.heap.size + 1 + 1 < w'.heap.size := by omega); (try have hy3 : w.heap.size + 1 + 1 + 1 < w'.heap.size := by omega); clear hb))
    refine bodyPost_ret (v := .tuple #[A4 (opt (passF s d) (isKitB k && isSandB k s && decide (0 ≤ d))), .bool (isKitB k && isSandB k s && decide (0 ≤ d))]) (by simp [results, Try.results29, go_sem, opt, *]) rfl ⟨by simp [*], by (repeat first | (with_reducible assumption) | (with_reducible exact Below.refl _ _) | ((with_reducible refine bl_alloc _ ?_ ?_); focus (first | (simp; done) | (simp; omega) | omega)) | ((with_reducible refine bl_set _ ?_ ?_); focus (first | (simp; done) | (simp; omega) | omega)) | (with_reducible refine Below.drew ?_) | (with_reducible refine bl_drewN _ ?_))⟩

theorem l1Least_q (a b : Int) (w : World) : Calls Try.prog 64 #[.int .i64 a, .int .i64 b] w fun e w' => e = .returned (.int .i64 (min a b)) ∧ Below w.heap.size w w' := (l1Least_any a b w).mono fun _ _ ⟨h, hw⟩ => ⟨h, hw ▸ Below.refl _ _⟩

set_option maxHeartbeats 400000 in
theorem specPassMinutes_any (k s : Nat → Int) (d : Int) (w : World) : Calls Try.prog 28 #[A4 k, A4 s, .int .i64 d] w fun e w' => e = .returned (.tuple #[A4 (opt (passF s d) (isKitB k && isSandB k s && decide (0 ≤ d))), .bool (isKitB k && isSandB k s && decide (0 ≤ d))]) ∧ Below w.heap.size w w' := by
  cases h1 : isKitB k <;> cases h2 : isSandB k s
  case true.true =>
    have hs := sand_of h1 h2
    by_cases hd : 0 ≤ d
    · go_enter Try.func28, Try.ntmps28
      go_wp2_with fail
      refine (l2Sand_any k s _).mono ?_
      rintro e w1 ⟨rfl, hb1⟩
      have fr0 : w1.frozen? ⟨w.heap.size + 1 + 1, 0, none⟩ = false := keep_free hb1 (v := .int .i64 0) (by simp [go_sem]) (by simp [go_sem])
      have fr1 : w1.frozen? ⟨w.heap.size + 1 + 1, 1, none⟩ = false := keep_free hb1 (v := .int .i64 0) (by simp [go_sem]) (by simp [go_sem])
      have fr2 : w1.frozen? ⟨w.heap.size + 1 + 1, 2, none⟩ = false := keep_free hb1 (v := .int .i64 0) (by simp [go_sem]) (by simp [go_sem])
      have fr3 : w1.frozen? ⟨w.heap.size + 1 + 1, 3, none⟩ = false := keep_free hb1 (v := .int .i64 0) (by simp [go_sem]) (by simp [go_sem])
      have cw100 : w1.cell? ⟨w.heap.size + 1, 0, none⟩ = some (.int .i64 (s 0)) := keep_below hb1 (by first | (with_reducible assumption) | (simp [go_sem]; done) | (simp [go_sem, *]; done))
      have cw101 : w1.cell? ⟨w.heap.size + 1, 1, none⟩ = some (.int .i64 (s 1)) := keep_below hb1 (by first | (with_reducible assumption) | (simp [go_sem]; done) | (simp [go_sem, *]; done))
      have cw102 : w1.cell? ⟨w.heap.size + 1, 2, none⟩ = some (.int .i64 (s 2)) := keep_below hb1 (by first | (with_reducible assumption) | (simp [go_sem]; done) | (simp [go_sem, *]; done))
      have cw103 : w1.cell? ⟨w.heap.size + 1, 3, none⟩ = some (.int .i64 (s 3)) := keep_below hb1 (by first | (with_reducible assumption) | (simp [go_sem]; done) | (simp [go_sem, *]; done))
      have cw110 : w1.cell? ⟨w.heap.size + 1 + 1, 0, none⟩ = some (.int .i64 0) := keep_below hb1 (by first | (with_reducible assumption) | (simp [go_sem]; done) | (simp [go_sem, *]; done))
      have cw111 : w1.cell? ⟨w.heap.size + 1 + 1, 1, none⟩ = some (.int .i64 0) := keep_below hb1 (by first | (with_reducible assumption) | (simp [go_sem]; done) | (simp [go_sem, *]; done))
      have cw112 : w1.cell? ⟨w.heap.size + 1 + 1, 2, none⟩ = some (.int .i64 0) := keep_below hb1 (by first | (with_reducible assumption) | (simp [go_sem]; done) | (simp [go_sem, *]; done))
      have cw113 : w1.cell? ⟨w.heap.size + 1 + 1, 3, none⟩ = some (.int .i64 0) := keep_below hb1 (by first | (with_reducible assumption) | (simp [go_sem]; done) | (simp [go_sem, *]; done))
      have yw10 := there cw100
      have yw11 := there cw110
      have Bw1 : Below w.heap.size w w1 := below_chain (by (repeat first | (with_reducible assumption) | (with_reducible exact Below.refl _ _) | ((with_reducible refine bl_alloc _ ?_ ?_); focus (first | (simp; done) | (simp; omega) | omega)) | ((with_reducible refine bl_set _ ?_ ?_); focus (first | (simp; done) | (simp; omega) | omega)) | (with_reducible refine Below.drew ?_) | (with_reducible refine bl_drewN _ ?_))) hb1
      clear hb1
      go_wp2_with fail
      go_region_with (first | (go_at_call 64; refine (l1Least_any _ _ _).mono ?_; rintro e w' ⟨rfl, rfl⟩) | (go_at_call 63; refine (l2Pass_min k s d hs hd _).mono ?_; rintro e w' ⟨rfl, hb⟩; have hB : Below w.heap.size w w' := Below.trans (by (repeat first | (with_reducible assumption) | (with_reducible exact Below.refl _ _) | ((with_reducible refine bl_alloc _ ?_ ?_); focus (first | (simp; done) | (simp; omega) | omega)) | ((with_reducible refine bl_set _ ?_ ?_); focus (first | (simp; done) | (simp; omega) | omega)) | (with_reducible refine Below.drew ?_) | (with_reducible refine bl_drewN _ ?_))) (hb.mono (by first | (simp; done) | (simp; omega) | omega)); obtain ⟨hc2, hf2⟩ := bcell hb; have hz2 := hb.size; (try simp at hz2); (try have hy0 : w.heap.size < w'.heap.size := by omega); (try have hy1 : w.heap.size + 1 < w'.heap.size := by omega); (try have hy2 : w.heap.size + 1 + 1 < w'.heap.size := by omega); (try have hy3 : w.heap.size + 1 + 1 + 1 < w'.heap.size := by omega); (have r0 : w'.cell? ⟨w.heap.size + 1 + 1, 0, none⟩ = some (.int .i64 0) := keep_below hb (by first | (with_reducible assumption) | (simp [*]; done))); (have q0 : w'.frozen? ⟨w.heap.size + 1 + 1, 0, none⟩ = false := keep_free hb (v := .int .i64 0) (by first | (with_reducible assumption) | (simp [*]; done)) (by first | (with_reducible assumption) | (simp [*]; done))); (have r1 : w'.cell? ⟨w.heap.size + 1 + 1, 1, none⟩ = some (.int .i64 0) := keep_below hb (by first | (with_reducible assumption) | (simp [*]; done))); (have q1 : w'.frozen? ⟨w.heap.size + 1 + 1, 1, none⟩ = false := keep_free hb (v := .int .i64 0) (by first | (with_reducible assumption) | (simp [*]; done)) (by first | (with_reducible assumption) | (simp [*]; done))); (have r2 : w'.cell? ⟨w.heap.size + 1 + 1, 2, none⟩ = some (.int .i64 0) := keep_below hb (by first | (with_reducible assumption) | (simp [*]; done))); (have q2 : w'.frozen? ⟨w.heap.size + 1 + 1, 2, none⟩ = false := keep_free hb (v := .int .i64 0) (by first | (with_reducible assumption) | (simp [*]; done)) (by first | (with_reducible assumption) | (simp [*]; done))); (have r3 : w'.cell? ⟨w.heap.size + 1 + 1, 3, none⟩ = some (.int .i64 0) := keep_below hb (by first | (with_reducible assumption) | (simp [*]; done))); (have q3 : w'.frozen? ⟨w.heap.size + 1 + 1, 3, none⟩ = false := keep_free hb (v := .int .i64 0) (by first | (with_reducible assumption) | (simp [*]; done)) (by first | (with_reducible assumption) | (simp [*]; done))); clear hb))
      all_goals go_wp2_with fail
      all_goals (refine bodyPost_ret (v := .tuple #[A4 (opt (passF s d) (isKitB k && isSandB k s && decide (0 ≤ d))), .bool (isKitB k && isSandB k s && decide (0 ≤ d))]) (by simp [results, Try.results28, go_sem, opt, *]) rfl ⟨by simp [*], by (repeat first | (with_reducible assumption) | (with_reducible exact Below.refl _ _) | ((with_reducible refine bl_alloc _ ?_ ?_); focus (first | (simp; done) | (simp; omega) | omega)) | ((with_reducible refine bl_set _ ?_ ?_); focus (first | (simp; done) | (simp; omega) | omega)) | (with_reducible refine Below.drew ?_) | (with_reducible refine bl_drewN _ ?_))⟩)
    · have hd : d < 0 := by omega
      go_enter Try.func28, Try.ntmps28
      go_wp2_with (first | (go_at_call 49; refine (l2Sand_any k s _).mono ?_; rintro e w' ⟨rfl, hb⟩; have hB : Below w.heap.size w w' := Below.trans (by (repeat first | (with_reducible assumption) | (with_reducible exact Below.refl _ _) | ((with_reducible refine bl_alloc _ ?_ ?_); focus (first | (simp; done) | (simp; omega) | omega)) | ((with_reducible refine bl_set _ ?_ ?_); focus (first | (simp; done) | (simp; omega) | omega)) | (with_reducible refine Below.drew ?_) | (with_reducible refine bl_drewN _ ?_))) (hb.mono (by first | (simp; done) | (simp; omega) | omega)); obtain ⟨hc, hf⟩ := bcell hb; have hz := hb.size; (try simp at hz); (try have hy0 : w.heap.size < w'.heap.size := by omega); (try have hy1 : w.heap.size + 1 < w'.heap.size := by omega); (try have hy2 : w.heap.size + 1 + 1 < w'.heap.size := by omega); (try have hy3 : w.heap.size + 1 + 1 + 1 < w'.heap.size := by omega); clear hb))
      refine bodyPost_ret (v := .tuple #[A4 (opt (passF s d) (isKitB k && isSandB k s && decide (0 ≤ d))), .bool (isKitB k && isSandB k s && decide (0 ≤ d))]) (by simp [results, Try.results28, go_sem, opt, Int.not_le.2 hd, *]) rfl ⟨by simp [Int.not_le.2 hd, *], by (repeat first | (with_reducible assumption) | (with_reducible exact Below.refl _ _) | ((with_reducible refine bl_alloc _ ?_ ?_); focus (first | (simp; done) | (simp; omega) | omega)) | ((with_reducible refine bl_set _ ?_ ?_); focus (first | (simp; done) | (simp; omega) | omega)) | (with_reducible refine Below.drew ?_) | (with_reducible refine bl_drewN _ ?_))⟩
  all_goals
    go_enter Try.func28, Try.ntmps28
    go_wp2_with (first | (go_at_call 49; refine (l2Sand_any k s _).mono ?_; rintro e w' ⟨rfl, hb⟩; have hB : Below w.heap.size w w' := Below.trans (by (repeat first | (with_reducible assumption) | (with_reducible exact Below.refl _ _) | ((with_reducible refine bl_alloc _ ?_ ?_); focus (first | (simp; done) | (simp; omega) | omega)) | ((with_reducible refine bl_set _ ?_ ?_); focus (first | (simp; done) | (simp; omega) | omega)) | (with_reducible refine Below.drew ?_) | (with_reducible refine bl_drewN _ ?_))) (hb.mono (by first | (simp; done) | (simp; omega) | omega)); obtain ⟨hc, hf⟩ := bcell hb; have hz := hb.size; (try simp at hz); (try have hy0 : w.heap.size < w'.heap.size := by omega); (try have hy1 : w.heap.size + 1 < w'.heap.size := by omega); (try have hy2 : w.heap.size + 1 + 1 < w'.heap.size := by omega); (try have hy3 : w.heap.size + 1 + 1 + 1 < w'.heap.size := by omega); clear hb))
    refine bodyPost_ret (v := .tuple #[A4 (opt (passF s d) (isKitB k && isSandB k s && decide (0 ≤ d))), .bool (isKitB k && isSandB k s && decide (0 ≤ d))]) (by simp [results, Try.results28, go_sem, opt, *]) rfl ⟨by simp [*], by (repeat first | (with_reducible assumption) | (with_reducible exact Below.refl _ _) | ((with_reducible refine bl_alloc _ ?_ ?_); focus (first | (simp; done) | (simp; omega) | omega)) | ((with_reducible refine bl_set _ ?_ ?_); focus (first | (simp; done) | (simp; omega) | omega)) | (with_reducible refine Below.drew ?_) | (with_reducible refine bl_drewN _ ?_))⟩

set_option maxHeartbeats 400000 in
theorem StepKit_any (k s : Nat → Int) (set : Int) (w : World) : Calls Try.prog 38 #[A4 k, A4 s, .int .i64 set] w fun e w' => e = .returned (.tuple #[A4 (opt (stepS k s set) (isKitB k && isSandB k s && isSetB k set && decide (0 < stepD k s set))), .int .i64 (optI (stepD k s set) (isKitB k && isSandB k s && isSetB k set && decide (0 < stepD k s set))), .bool (isKitB k && isSandB k s && isSetB k set && decide (0 < stepD k s set))]) ∧ Below w.heap.size w w' := by
  cases h1 : isKitB k <;> cases h2 : isSandB k s <;> cases h3 : isSetB k set
  case true.true.true =>
    have hs := sand_of h1 h2
    have hd := (hs.stepD set).1
    by_cases hz : stepD k s set = 0
    · have hzb : (stepD k s set == 0) = true := by simp [hz]
      have HZ : Hid (stepD k s set = 0) := hz
      clear hz
      go_enter Try.func38, Try.ntmps38
      go_wp2_with (first | (go_at_call 50; refine (areSand_any k s _).mono ?_; rintro e w' ⟨rfl, hb⟩; have hB : Below w.heap.size w w' := Below.trans (by (repeat first | (with_reducible assumption) | (with_reducible exact Below.refl _ _) | ((with_reducible refine bl_alloc _ ?_ ?_); focus (first | (simp; done) | (simp; omega) | omega)) | ((with_reducible refine bl_set _ ?_ ?_); focus (first | (simp; done) | (simp; omega) | omega)) | (with_reducible refine Below.drew ?_) | (with_reducible refine bl_drewN _ ?_))) (hb.mono (by first | (simp; done) | (simp; omega) | omega)); obtain ⟨hc, hf⟩ := bcell hb; have hz := hb.size; (try simp at hz); (try have hy0 : w.heap.size < w'.heap.size := by omega); (try have hy1 : w.heap.size + 1 < w'.heap.size := by omega); (try have hy2 : w.heap.size + 1 + 1 < w'.heap.size := by omega); (try have hy3 : w.heap.size + 1 + 1 + 1 < w'.heap.size := by omega); clear hb) | (go_at_call 75; refine (isSet_any k set _).mono ?_; rintro e w' ⟨rfl, hb⟩; have hB : Below w.heap.size w w' := Below.trans (by (repeat first | (with_reducible assumption) | (with_reducible exact Below.refl _ _) | ((with_reducible refine bl_alloc _ ?_ ?_); focus (first | (simp; done) | (simp; omega) | omega)) | ((with_reducible refine bl_set _ ?_ ?_); focus (first | (simp; done) | (simp; omega) | omega)) | (with_reducible refine Below.drew ?_) | (with_reducible refine bl_drewN _ ?_))) (hb.mono (by first | (simp; done) | (simp; omega) | omega)); obtain ⟨hc2, hf2⟩ := bcell hb; have hz2 := hb.size; (try simp at hz2); (try have hy0 : w.heap.size < w'.heap.size := by omega); (try have hy1 : w.heap.size + 1 < w'.heap.size := by omega); (try have hy2 : w.heap.size + 1 + 1 < w'.heap.size := by omega); (try have hy3 : w.heap.size + 1 + 1 + 1 < w'.heap.size := by omega); clear hb) | (go_at_call 78; refine (step_any k s set hs _).mono ?_; rintro e w' ⟨rfl, hb⟩; have hB : Below w.heap.size w w' := Below.trans (by (repeat first | (with_reducible assumption) | (with_reducible exact Below.refl _ _) | ((with_reducible refine bl_alloc _ ?_ ?_); focus (first | (simp; done) | (simp; omega) | omega)) | ((with_reducible refine bl_set _ ?_ ?_); focus (first | (simp; done) | (simp; omega) | omega)) | (with_reducible refine Below.drew ?_) | (with_reducible refine bl_drewN _ ?_))) (hb.mono (by first | (simp; done) | (simp; omega) | omega)); obtain ⟨hc3, hf3⟩ := bcell hb; have hz3 := hb.size; (try simp at hz3); (try have hy0 : w.heap.size < w'.heap.size := by omega); (try have hy1 : w.heap.size + 1 < w'.heap.size := by omega); (try have hy2 : w.heap.size + 1 + 1 < w'.heap.size := by omega); (try have hy3 : w.heap.size + 1 + 1 + 1 < w'.heap.size := by omega); clear hb))
      refine bodyPost_ret (v := .tuple #[A4 (opt (stepS k s set) (isKitB k && isSandB k s && isSetB k set && decide (0 < stepD k s set))), .int .i64 (optI (stepD k s set) (isKitB k && isSandB k s && isSetB k set && decide (0 < stepD k s set))), .bool (isKitB k && isSandB k s && isSetB k set && decide (0 < stepD k s set))]) (by simp [results, Try.results38, go_sem, opt, optI, HZ.out, *]) rfl ⟨by simp [*], by (repeat first | (with_reducible assumption) | (with_reducible exact Below.refl _ _) | ((with_reducible refine bl_alloc _ ?_ ?_); focus (first | (simp; done) | (simp; omega) | omega)) | ((with_reducible refine bl_set _ ?_ ?_); focus (first | (simp; done) | (simp; omega) | omega)) | (with_reducible refine Below.drew ?_) | (with_reducible refine bl_drewN _ ?_))⟩
    · have hzb : (stepD k s set == 0) = false := by simp [hz]
      have hz2 : 0 < stepD k s set := by omega
      clear hz
      go_enter Try.func38, Try.ntmps38
      go_wp2_with (first | (go_at_call 50; refine (areSand_any k s _).mono ?_; rintro e w' ⟨rfl, hb⟩; have hB : Below w.heap.size w w' := Below.trans (by (repeat first | (with_reducible assumption) | (with_reducible exact Below.refl _ _) | ((with_reducible refine bl_alloc _ ?_ ?_); focus (first | (simp; done) | (simp; omega) | omega)) | ((with_reducible refine bl_set _ ?_ ?_); focus (first | (simp; done) | (simp; omega) | omega)) | (with_reducible refine Below.drew ?_) | (with_reducible refine bl_drewN _ ?_))) (hb.mono (by first | (simp; done) | (simp; omega) | omega)); obtain ⟨hc, hf⟩ := bcell hb; have hz := hb.size; (try simp at hz); (try have hy0 : w.heap.size < w'.heap.size := by omega); (try have hy1 : w.heap.size + 1 < w'.heap.size := by omega); (try have hy2 : w.heap.size + 1 + 1 < w'.heap.size := by omega); (try have hy3 : w.heap.size + 1 + 1 + 1 < w'.heap.size := by omega); clear hb) | (go_at_call 75; refine (isSet_any k set _).mono ?_; rintro e w' ⟨rfl, hb⟩; have hB : Below w.heap.size w w' := Below.trans (by (repeat first | (with_reducible assumption) | (with_reducible exact Below.refl _ _) | ((with_reducible refine bl_alloc _ ?_ ?_); focus (first | (simp; done) | (simp; omega) | omega)) | ((with_reducible refine bl_set _ ?_ ?_); focus (first | (simp; done) | (simp; omega) | omega)) | (with_reducible refine Below.drew ?_) | (with_reducible refine bl_drewN _ ?_))) (hb.mono (by first | (simp; done) | (simp; omega) | omega)); obtain ⟨hc2, hf2⟩ := bcell hb; have hz2 := hb.size; (try simp at hz2); (try have hy0 : w.heap.size < w'.heap.size := by omega); (try have hy1 : w.heap.size + 1 < w'.heap.size := by omega); (try have hy2 : w.heap.size + 1 + 1 < w'.heap.size := by omega); (try have hy3 : w.heap.size + 1 + 1 + 1 < w'.heap.size := by omega); clear hb) | (go_at_call 78; refine (step_any k s set hs _).mono ?_; rintro e w' ⟨rfl, hb⟩; have hB : Below w.heap.size w w' := Below.trans (by (repeat first | (with_reducible assumption) | (with_reducible exact Below.refl _ _) | ((with_reducible refine bl_alloc _ ?_ ?_); focus (first | (simp; done) | (simp; omega) | omega)) | ((with_reducible refine bl_set _ ?_ ?_); focus (first | (simp; done) | (simp; omega) | omega)) | (with_reducible refine Below.drew ?_) | (with_reducible refine bl_drewN _ ?_))) (hb.mono (by first | (simp; done) | (simp; omega) | omega)); obtain ⟨hc3, hf3⟩ := bcell hb; have hz3 := hb.size; (try simp at hz3); (try have hy0 : w.heap.size < w'.heap.size := by omega); (try have hy1 : w.heap.size + 1 < w'.heap.size := by omega); (try have hy2 : w.heap.size + 1 + 1 < w'.heap.size := by omega); (try have hy3 : w.heap.size + 1 + 1 + 1 < w'.heap.size := by omega); clear hb))
      refine bodyPost_ret (v := .tuple #[A4 (opt (stepS k s set) (isKitB k && isSandB k s && isSetB k set && decide (0 < stepD k s set))), .int .i64 (optI (stepD k s set) (isKitB k && isSandB k s && isSetB k set && decide (0 < stepD k s set))), .bool (isKitB k && isSandB k s && isSetB k set && decide (0 < stepD k s set))]) (by simp [results, Try.results38, go_sem, opt, optI, *]) rfl ⟨by simp [*], by (repeat first | (with_reducible assumption) | (with_reducible exact Below.refl _ _) | ((with_reducible refine bl_alloc _ ?_ ?_); focus (first | (simp; done) | (simp; omega) | omega)) | ((with_reducible refine bl_set _ ?_ ?_); focus (first | (simp; done) | (simp; omega) | omega)) | (with_reducible refine Below.drew ?_) | (with_reducible refine bl_drewN _ ?_))⟩
  all_goals
    go_enter Try.func38, Try.ntmps38
    go_wp2_with (first | (go_at_call 50; refine (areSand_any k s _).mono ?_; rintro e w' ⟨rfl, hb⟩; have hB : Below w.heap.size w w' := Below.trans (by (repeat first | (with_reducible assumption) | (with_reducible exact Below.refl _ _) | ((with_reducible refine bl_alloc _ ?_ ?_); focus (first | (simp; done) | (simp; omega) | omega)) | ((with_reducible refine bl_set _ ?_ ?_); focus (first | (simp; done) | (simp; omega) | omega)) | (with_reducible refine Below.drew ?_) | (with_reducible refine bl_drewN _ ?_))) (hb.mono (by first | (simp; done) | (simp; omega) | omega)); obtain ⟨hc, hf⟩ := bcell hb; have hz := hb.size; (try simp at hz); (try have hy0 : w.heap.size < w'.heap.size := by omega); (try have hy1 : w.heap.size + 1 < w'.heap.size := by omega); (try have hy2 : w.heap.size + 1 + 1 < w'.heap.size := by omega); (try have hy3 : w.heap.size + 1 + 1 + 1 < w'.heap.size := by omega); clear hb) | (go_at_call 75; refine (isSet_any k set _).mono ?_; rintro e w' ⟨rfl, hb⟩; have hB : Below w.heap.size w w' := Below.trans (by (repeat first | (with_reducible assumption) | (with_reducible exact Below.refl _ _) | ((with_reducible refine bl_alloc _ ?_ ?_); focus (first | (simp; done) | (simp; omega) | omega)) | ((with_reducible refine bl_set _ ?_ ?_); focus (first | (simp; done) | (simp; omega) | omega)) | (with_reducible refine Below.drew ?_) | (with_reducible refine bl_drewN _ ?_))) (hb.mono (by first | (simp; done) | (simp; omega) | omega)); obtain ⟨hc2, hf2⟩ := bcell hb; have hz2 := hb.size; (try simp at hz2); (try have hy0 : w.heap.size < w'.heap.size := by omega); (try have hy1 : w.heap.size + 1 < w'.heap.size := by omega); (try have hy2 : w.heap.size + 1 + 1 < w'.heap.size := by omega); (try have hy3 : w.heap.size + 1 + 1 + 1 < w'.heap.size := by omega); clear hb) | (go_at_call 78; refine (step_any k s set hs _).mono ?_; rintro e w' ⟨rfl, hb⟩; have hB : Below w.heap.size w w' := Below.trans (by (repeat first | (with_reducible assumption) | (with_reducible exact Below.refl _ _) | ((with_reducible refine bl_alloc _ ?_ ?_); focus (first | (simp; done) | (simp; omega) | omega)) | ((with_reducible refine bl_set _ ?_ ?_); focus (first | (simp; done) | (simp; omega) | omega)) | (with_reducible refine Below.drew ?_) | (with_reducible refine bl_drewN _ ?_))) (hb.mono (by first | (simp; done) | (simp; omega) | omega)); obtain ⟨hc3, hf3⟩ := bcell hb; have hz3 := hb.size; (try simp at hz3); (try have hy0 : w.heap.size < w'.heap.size := by omega); (try have hy1 : w.heap.size + 1 < w'.heap.size := by omega); (try have hy2 : w.heap.size + 1 + 1 < w'.heap.size := by omega); (try have hy3 : w.heap.size + 1 + 1 + 1 < w'.heap.size := by omega); clear hb))
    refine bodyPost_ret (v := .tuple #[A4 (opt (stepS k s set) (isKitB k && isSandB k s && isSetB k set && decide (0 < stepD k s set))), .int .i64 (optI (stepD k s set) (isKitB k && isSandB k s && isSetB k set && decide (0 < stepD k s set))), .bool (isKitB k && isSandB k s && isSetB k set && decide (0 < stepD k s set))]) (by simp [results, Try.results38, go_sem, opt, optI, *]) rfl ⟨by simp [*], by (repeat first | (with_reducible assumption) | (with_reducible exact Below.refl _ _) | ((with_reducible refine bl_alloc _ ?_ ?_); focus (first | (simp; done) | (simp; omega) | omega)) | ((with_reducible refine bl_set _ ?_ ?_); focus (first | (simp; done) | (simp; omega) | omega)) | (with_reducible refine Below.drew ?_) | (with_reducible refine bl_drewN _ ?_))⟩

set_option maxHeartbeats 400000 in
theorem specStepKit_any (k s : Nat → Int) (set : Int) (w : World) : Calls Try.prog 37 #[A4 k, A4 s, .int .i64 set] w fun e w' => e = .returned (.tuple #[A4 (opt (stepS k s set) (isKitB k && isSandB k s && isSetB k set && decide (0 < stepD k s set))), .int .i64 (optI (stepD k s set) (isKitB k && isSandB k s && isSetB k set && decide (0 < stepD k s set))), .bool (isKitB k && isSandB k s && isSetB k set && decide (0 < stepD k s set))]) ∧ Below w.heap.size w w' := by
  cases h1 : isKitB k <;> cases h2 : isSandB k s <;> cases h3 : isSetB k set
  case true.true.true =>
    have hs := sand_of h1 h2
    have hd := (hs.stepD set).1
    by_cases hz : stepD k s set = 0
    · have hzb : (stepD k s set == 0) = true := by simp [hz]
      have HZ : Hid (stepD k s set = 0) := hz
      clear hz
      go_enter Try.func37, Try.ntmps37
      go_wp2_with (first | (go_at_call 49; refine (l2Sand_any k s _).mono ?_; rintro e w' ⟨rfl, hb⟩; have hB : Below w.heap.size w w' := Below.trans (by (repeat first | (with_reducible assumption) | (with_reducible exact Below.refl _ _) | ((with_reducible refine bl_alloc _ ?_ ?_); focus (first | (simp; done) | (simp; omega) | omega)) | ((with_reducible refine bl_set _ ?_ ?_); focus (first | (simp; done) | (simp; omega) | omega)) | (with_reducible refine Below.drew ?_) | (with_reducible refine bl_drewN _ ?_))) (hb.mono (by first | (simp; done) | (simp; omega) | omega)); obtain ⟨hc, hf⟩ := bcell hb; have hz := hb.size; (try simp at hz); (try have hy0 : w.heap.size < w'.heap.size := by omega); (try have hy1 : w.heap.size + 1 < w'.heap.size := by omega); (try have hy2 : w.heap.size + 1 + 1 < w'.heap.size := by omega); (try have hy3 : w.heap.size + 1 + 1 + 1 < w'.heap.size := by omega); clear hb) | (go_at_call 73; refine (l2Set_any k set _).mono ?_; rintro e w' ⟨rfl, hb⟩; have hB : Below w.heap.size w w' := Below.trans (by (repeat first | (with_reducible assumption) | (with_reducible exact Below.refl _ _) | ((with_reducible refine bl_alloc _ ?_ ?_); focus (first | (simp; done) | (simp; omega) | omega)) | ((with_reducible refine bl_set _ ?_ ?_); focus (first | (simp; done) | (simp; omega) | omega)) | (with_reducible refine Below.drew ?_) | (with_reducible refine bl_drewN _ ?_))) (hb.mono (by first | (simp; done) | (simp; omega) | omega)); obtain ⟨hc2, hf2⟩ := bcell hb; have hz2 := hb.size; (try simp at hz2); (try have hy0 : w.heap.size < w'.heap.size := by omega); (try have hy1 : w.heap.size + 1 < w'.heap.size := by omega); (try have hy2 : w.heap.size + 1 + 1 < w'.heap.size := by omega); (try have hy3 : w.heap.size + 1 + 1 + 1 < w'.heap.size := by omega); clear hb) | (go_at_call 77; refine (l2Step_any k s set hs _).mono ?_; rintro e w' ⟨rfl, hb⟩; have hB : Below w.heap.size w w' := Below.trans (by (repeat first | (with_reducible assumption) | (with_reducible exact Below.refl _ _) | ((with_reducible refine bl_alloc _ ?_ ?_); focus (first | (simp; done) | (simp; omega) | omega)) | ((with_reducible refine bl_set _ ?_ ?_); focus (first | (simp; done) | (simp; omega) | omega)) | (with_reducible refine Below.drew ?_) | (with_reducible refine bl_drewN _ ?_))) (hb.mono (by first | (simp; done) | (simp; omega) | omega)); obtain ⟨hc3, hf3⟩ := bcell hb; have hz3 := hb.size; (try simp at hz3); (try have hy0 : w.heap.size < w'.heap.size := by omega); (try have hy1 : w.heap.size + 1 < w'.heap.size := by omega); (try have hy2 : w.heap.size + 1 + 1 < w'.heap.size := by omega); (try have hy3 : w.heap.size + 1 + 1 + 1 < w'.heap.size := by omega); clear hb))
      refine bodyPost_ret (v := .tuple #[A4 (opt (stepS k s set) (isKitB k && isSandB k s && isSetB k set && decide (0 < stepD k s set))), .int .i64 (optI (stepD k s set) (isKitB k && isSandB k s && isSetB k set && decide (0 < stepD k s set))), .bool (isKitB k && isSandB k s && isSetB k set && decide (0 < stepD k s set))]) (by simp [results, Try.results37, go_sem, opt, optI, HZ.out, *]) rfl ⟨by simp [*], by (repeat first | (with_reducible assumption) | (with_reducible exact Below.refl _ _) | ((with_reducible refine bl_alloc _ ?_ ?_); focus (first | (simp; done) | (simp; omega) | omega)) | ((with_reducible refine bl_set _ ?_ ?_); focus (first | (simp; done) | (simp; omega) | omega)) | (with_reducible refine Below.drew ?_) | (with_reducible refine bl_drewN _ ?_))⟩
    · have hzb : (stepD k s set == 0) = false := by simp [hz]
      have hz2 : 0 < stepD k s set := by omega
      clear hz
      go_enter Try.func37, Try.ntmps37
      go_wp2_with (first | (go_at_call 49; refine (l2Sand_any k s _).mono ?_; rintro e w' ⟨rfl, hb⟩; have hB : Below w.heap.size w w' := Below.trans (by (repeat first | (with_reducible assumption) | (with_reducible exact Below.refl _ _) | ((with_reducible refine bl_alloc _ ?_ ?_); focus (first | (simp; done) | (simp; omega) | omega)) | ((with_reducible refine bl_set _ ?_ ?_); focus (first | (simp; done) | (simp; omega) | omega)) | (with_reducible refine Below.drew ?_) | (with_reducible refine bl_drewN _ ?_))) (hb.mono (by first | (simp; done) | (simp; omega) | omega)); obtain ⟨hc, hf⟩ := bcell hb; have hz := hb.size; (try simp at hz); (try have hy0 : w.heap.size < w'.heap.size := by omega); (try have hy1 : w.heap.size + 1 < w'.heap.size := by omega); (try have hy2 : w.heap.size + 1 + 1 < w'.heap.size := by omega); (try have hy3 : w.heap.size + 1 + 1 + 1 < w'.heap.size := by omega); clear hb) | (go_at_call 73; refine (l2Set_any k set _).mono ?_; rintro e w' ⟨rfl, hb⟩; have hB : Below w.heap.size w w' := Below.trans (by (repeat first | (with_reducible assumption) | (with_reducible exact Below.refl _ _) | ((with_reducible refine bl_alloc _ ?_ ?_); focus (first | (simp; done) | (simp; omega) | omega)) | ((with_reducible refine bl_set _ ?_ ?_); focus (first | (simp; done) | (simp; omega) | omega)) | (with_reducible refine Below.drew ?_) | (with_reducible refine bl_drewN _ ?_))) (hb.mono (by first | (simp; done) | (simp; omega) | omega)); obtain ⟨hc2, hf2⟩ := bcell hb; have hz2 := hb.size; (try simp at hz2); (try have hy0 : w.heap.size < w'.heap.size := by omega); (try have hy1 : w.heap.size + 1 < w'.heap.size := by omega); (try have hy2 : w.heap.size + 1 + 1 < w'.heap.size := by omega); (try have hy3 : w.heap.size + 1 + 1 + 1 < w'.heap.size := by omega); clear hb) | (go_at_call 77; refine (l2Step_any k s set hs _).mono ?_; rintro e w' ⟨rfl, hb⟩; have hB : Below w.heap.size w w' := Below.trans (by (repeat first | (with_reducible assumption) | (with_reducible exact Below.refl _ _) | ((with_reducible refine bl_alloc _ ?_ ?_); focus (first | (simp; done) | (simp; omega) | omega)) | ((with_reducible refine bl_set _ ?_ ?_); focus (first | (simp; done) | (simp; omega) | omega)) | (with_reducible refine Below.drew ?_) | (with_reducible refine bl_drewN _ ?_))) (hb.mono (by first | (simp; done) | (simp; omega) | omega)); obtain ⟨hc3, hf3⟩ := bcell hb; have hz3 := hb.size; (try simp at hz3); (try have hy0 : w.heap.size < w'.heap.size := by omega); (try have hy1 : w.heap.size + 1 < w'.heap.size := by omega); (try have hy2 : w.heap.size + 1 + 1 < w'.heap.size := by omega); (try have hy3 : w.heap.size + 1 + 1 + 1 < w'.heap.size := by omega); clear hb))
      refine bodyPost_ret (v := .tuple #[A4 (opt (stepS k s set) (isKitB k && isSandB k s && isSetB k set && decide (0 < stepD k s set))), .int .i64 (optI (stepD k s set) (isKitB k && isSandB k s && isSetB k set && decide (0 < stepD k s set))), .bool (isKitB k && isSandB k s && isSetB k set && decide (0 < stepD k s set))]) (by simp [results, Try.results37, go_sem, opt, optI, *]) rfl ⟨by simp [*], by (repeat first | (with_reducible assumption) | (with_reducible exact Below.refl _ _) | ((with_reducible refine bl_alloc _ ?_ ?_); focus (first | (simp; done) | (simp; omega) | omega)) | ((with_reducible refine bl_set _ ?_ ?_); focus (first | (simp; done) | (simp; omega) | omega)) | (with_reducible refine Below.drew ?_) | (with_reducible refine bl_drewN _ ?_))⟩
  all_goals
    go_enter Try.func37, Try.ntmps37
    go_wp2_with (first | (go_at_call 49; refine (l2Sand_any k s _).mono ?_; rintro e w' ⟨rfl, hb⟩; have hB : Below w.heap.size w w' := Below.trans (by (repeat first | (with_reducible assumption) | (with_reducible exact Below.refl _ _) | ((with_reducible refine bl_alloc _ ?_ ?_); focus (first | (simp; done) | (simp; omega) | omega)) | ((with_reducible refine bl_set _ ?_ ?_); focus (first | (simp; done) | (simp; omega) | omega)) | (with_reducible refine Below.drew ?_) | (with_reducible refine bl_drewN _ ?_))) (hb.mono (by first | (simp; done) | (simp; omega) | omega)); obtain ⟨hc, hf⟩ := bcell hb; have hz := hb.size; (try simp at hz); (try have hy0 : w.heap.size < w'.heap.size := by omega); (try have hy1 : w.heap.size + 1 < w'.heap.size := by omega); (try have hy2 : w.heap.size + 1 + 1 < w'.heap.size := by omega); (try have hy3 : w.heap.size + 1 + 1 + 1 < w'.heap.size := by omega); clear hb) | (go_at_call 73; refine (l2Set_any k set _).mono ?_; rintro e w' ⟨rfl, hb⟩; have hB : Below w.heap.size w w' := Below.trans (by (repeat first | (with_reducible assumption) | (with_reducible exact Below.refl _ _) | ((with_reducible refine bl_alloc _ ?_ ?_); focus (first | (simp; done) | (simp; omega) | omega)) | ((with_reducible refine bl_set _ ?_ ?_); focus (first | (simp; done) | (simp; omega) | omega)) | (with_reducible refine Below.drew ?_) | (with_reducible refine bl_drewN _ ?_))) (hb.mono (by first | (simp; done) | (simp; omega) | omega)); obtain ⟨hc2, hf2⟩ := bcell hb; have hz2 := hb.size; (try simp at hz2); (try have hy0 : w.heap.size < w'.heap.size := by omega); (try have hy1 : w.heap.size + 1 < w'.heap.size := by omega); (try have hy2 : w.heap.size + 1 + 1 < w'.heap.size := by omega); (try have hy3 : w.heap.size + 1 + 1 + 1 < w'.heap.size := by omega); clear hb) | (go_at_call 77; refine (l2Step_any k s set hs _).mono ?_; rintro e w' ⟨rfl, hb⟩; have hB : Below w.heap.size w w' := Below.trans (by (repeat first | (with_reducible assumption) | (with_reducible exact Below.refl _ _) | ((with_reducible refine bl_alloc _ ?_ ?_); focus (first | (simp; done) | (simp; omega) | omega)) | ((with_reducible refine bl_set _ ?_ ?_); focus (first | (simp; done) | (simp; omega) | omega)) | (with_reducible refine Below.drew ?_) | (with_reducible refine bl_drewN _ ?_))) (hb.mono (by first | (simp; done) | (simp; omega) | omega)); obtain ⟨hc3, hf3⟩ := bcell hb; have hz3 := hb.size; (try simp at hz3); (try have hy0 : w.heap.size < w'.heap.size := by omega); (try have hy1 : w.heap.size + 1 < w'.heap.size := by omega); (try have hy2 : w.heap.size + 1 + 1 < w'.heap.size := by omega); (try have hy3 : w.heap.size + 1 + 1 + 1 < w'.heap.size := by omega); clear hb))
    refine bodyPost_ret (v := .tuple #[A4 (opt (stepS k s set) (isKitB k && isSandB k s && isSetB k set && decide (0 < stepD k s set))), .int .i64 (optI (stepD k s set) (isKitB k && isSandB k s && isSetB k set && decide (0 < stepD k s set))), .bool (isKitB k && isSandB k s && isSetB k set && decide (0 < stepD k s set))]) (by simp [results, Try.results37, go_sem, opt, optI, *]) rfl ⟨by simp [*], by (repeat first | (with_reducible assumption) | (with_reducible exact Below.refl _ _) | ((with_reducible refine bl_alloc _ ?_ ?_); focus (first | (simp; done) | (simp; omega) | omega)) | ((with_reducible refine bl_set _ ?_ ?_); focus (first | (simp; done) | (simp; omega) | omega)) | (with_reducible refine Below.drew ?_) | (with_reducible refine bl_drewN _ ?_))⟩

theorem calm_any (w : World) : Calls Try.prog 59 #[] w fun e w' => e = .returned (A4 (fun _ => 0)) ∧ Below w.heap.size w w' := by
  go_enter Try.func59, Try.ntmps59
  go_wp2_with fail
  refine bodyPost_ret (v := A4 (fun _ => 0)) (by simp [results, Try.results59, go_sem]) rfl ⟨rfl, by (repeat first | (with_reducible assumption) | (with_reducible exact Below.refl _ _) | ((with_reducible refine bl_alloc _ ?_ ?_); focus (first | (simp; done) | (simp; omega) | omega)) | ((with_reducible refine bl_set _ ?_ ?_); focus (first | (simp; done) | (simp; omega) | omega)) | (with_reducible refine Below.drew ?_) | (with_reducible refine bl_drewN _ ?_))⟩

set_option maxHeartbeats 800000 in
theorem CommonMinutes_any (k s : Nat → Int) (w : World) : Calls Try.prog 27 #[A4 k, A4 s] w fun e w' => e = .returned (.tuple #[.int .i64 (optI (gcdTo k s 4) (isKitB k && isSandB k s)), .bool (isKitB k && isSandB k s)]) ∧ Below w.heap.size w w' := by
  cases h1 : isKitB k <;> cases h2 : isSandB k s
  case true.true =>
    have hs := sand_of h1 h2
    have lo0 := hs.lo 0 (by omega)
    have hi0 := hs.hi 0 (by omega)
    have tp0 := hs.top 0 (by omega)
    have lo1 := hs.lo 1 (by omega)
    have hi1 := hs.hi 1 (by omega)
    have tp1 := hs.top 1 (by omega)
    have lo2 := hs.lo 2 (by omega)
    have hi2 := hs.hi 2 (by omega)
    have tp2 := hs.top 2 (by omega)
    have lo3 := hs.lo 3 (by omega)
    have hi3 := hs.hi 3 (by omega)
    have tp3 := hs.top 3 (by omega)
    have i0 : ∀ w : World, (Instr.index 22 (A4 k) (.int .i64 0)).run Try.prog w = .ok (.int .i64 (k 0)) w := fun _ => by kernel_rfl
    have i1 : ∀ w : World, (Instr.index 22 (A4 k) (.int .i64 1)).run Try.prog w = .ok (.int .i64 (k 1)) w := fun _ => by kernel_rfl
    have i2 : ∀ w : World, (Instr.index 22 (A4 k) (.int .i64 2)).run Try.prog w = .ok (.int .i64 (k 2)) w := fun _ => by kernel_rfl
    have i3 : ∀ w : World, (Instr.index 22 (A4 k) (.int .i64 3)).run Try.prog w = .ok (.int .i64 (k 3)) w := fun _ => by kernel_rfl
    clear hs
    go_enter Try.func27, Try.ntmps27
    go_wp2_with (first | (go_at_call 50; refine (areSand_any k s _).mono ?_; rintro e w' ⟨rfl, hb⟩; have hB : Below w.heap.size w w' := Below.trans (by (repeat first | (with_reducible assumption) | (with_reducible exact Below.refl _ _) | ((with_reducible refine bl_alloc _ ?_ ?_); focus (first | (simp; done) | (simp; omega) | omega)) | ((with_reducible refine bl_set _ ?_ ?_); focus (first | (simp; done) | (simp; omega) | omega)) | (with_reducible refine Below.drew ?_) | (with_reducible refine bl_drewN _ ?_))) (hb.mono (by first | (simp; done) | (simp; omega) | omega)); obtain ⟨hc, hf⟩ := bcell hb; have hz := hb.size; (try simp at hz); (try have hy0 : w.heap.size < w'.heap.size := by omega); (try have hy1 : w.heap.size + 1 < w'.heap.size := by omega); (try have hy2 : w.heap.size + 1 + 1 < w'.heap.size := by omega); (try have hy3 : w.heap.size + 1 + 1 + 1 < w'.heap.size := by omega); clear hb))
    refine wp_loop_rounds 5 ?_
    go_wp2_with (first | (rw [rounds_succ]) | (go_quiet ((first | (go_at_call 62; first | exact Calls.quiet_of (gcd_any _ _ (by (repeat' (first | omega | exact gcdF_nonneg _ _ | refine gcdF_le ⟨?_, ?_⟩ ⟨?_, ?_⟩))) (by (repeat' (first | omega | exact gcdF_nonneg _ _ | refine gcdF_le ⟨?_, ?_⟩ ⟨?_, ?_⟩))) (by (repeat' (first | omega | exact gcdF_nonneg _ _ | refine gcdF_le ⟨?_, ?_⟩ ⟨?_, ?_⟩))) (by (repeat' (first | omega | exact gcdF_nonneg _ _ | refine gcdF_le ⟨?_, ?_⟩ ⟨?_, ?_⟩))) _) | exact quiet_add (gcd_any _ _ (by (repeat' (first | omega | exact gcdF_nonneg _ _ | refine gcdF_le ⟨?_, ?_⟩ ⟨?_, ?_⟩))) (by (repeat' (first | omega | exact gcdF_nonneg _ _ | refine gcdF_le ⟨?_, ?_⟩ ⟨?_, ?_⟩))) (by (repeat' (first | omega | exact gcdF_nonneg _ _ | refine gcdF_le ⟨?_, ?_⟩ ⟨?_, ?_⟩))) (by (repeat' (first | omega | exact gcdF_nonneg _ _ | refine gcdF_le ⟨?_, ?_⟩ ⟨?_, ?_⟩))) _))))))
    go_ret2
    exact ⟨by simp [optI, gcdTo, *], by (repeat first | (with_reducible assumption) | (with_reducible exact Below.refl _ _) | ((with_reducible refine bl_alloc _ ?_ ?_); focus (first | (simp; done) | (simp; omega) | omega)) | ((with_reducible refine bl_set _ ?_ ?_); focus (first | (simp; done) | (simp; omega) | omega)) | (with_reducible refine Below.drew ?_) | (with_reducible refine bl_drewN _ ?_))⟩
  all_goals
    go_enter Try.func27, Try.ntmps27
    go_wp2_with (first | (go_at_call 50; refine (areSand_any k s _).mono ?_; rintro e w' ⟨rfl, hb⟩; have hB : Below w.heap.size w w' := Below.trans (by (repeat first | (with_reducible assumption) | (with_reducible exact Below.refl _ _) | ((with_reducible refine bl_alloc _ ?_ ?_); focus (first | (simp; done) | (simp; omega) | omega)) | ((with_reducible refine bl_set _ ?_ ?_); focus (first | (simp; done) | (simp; omega) | omega)) | (with_reducible refine Below.drew ?_) | (with_reducible refine bl_drewN _ ?_))) (hb.mono (by first | (simp; done) | (simp; omega) | omega)); obtain ⟨hc, hf⟩ := bcell hb; have hz := hb.size; (try simp at hz); (try have hy0 : w.heap.size < w'.heap.size := by omega); (try have hy1 : w.heap.size + 1 < w'.heap.size := by omega); (try have hy2 : w.heap.size + 1 + 1 < w'.heap.size := by omega); (try have hy3 : w.heap.size + 1 + 1 + 1 < w'.heap.size := by omega); clear hb))
    go_ret2
    exact ⟨by simp [optI, *], by (repeat first | (with_reducible assumption) | (with_reducible exact Below.refl _ _) | ((with_reducible refine bl_alloc _ ?_ ?_); focus (first | (simp; done) | (simp; omega) | omega)) | ((with_reducible refine bl_set _ ?_ ?_); focus (first | (simp; done) | (simp; omega) | omega)) | (with_reducible refine Below.drew ?_) | (with_reducible refine bl_drewN _ ?_))⟩

set_option maxHeartbeats 800000 in
theorem specCommonMinutes_any (k s : Nat → Int) (w : World) : Calls Try.prog 26 #[A4 k, A4 s] w fun e w' => e = .returned (.tuple #[.int .i64 (optI (gcdTo k s 4) (isKitB k && isSandB k s)), .bool (isKitB k && isSandB k s)]) ∧ Below w.heap.size w w' := by
  cases h1 : isKitB k <;> cases h2 : isSandB k s
  case true.true =>
    have hs := sand_of h1 h2
    have lo0 := hs.lo 0 (by omega)
    have hi0 := hs.hi 0 (by omega)
    have tp0 := hs.top 0 (by omega)
    have lo1 := hs.lo 1 (by omega)
    have hi1 := hs.hi 1 (by omega)
    have tp1 := hs.top 1 (by omega)
    have lo2 := hs.lo 2 (by omega)
    have hi2 := hs.hi 2 (by omega)
    have tp2 := hs.top 2 (by omega)
    have lo3 := hs.lo 3 (by omega)
    have hi3 := hs.hi 3 (by omega)
    have tp3 := hs.top 3 (by omega)
    clear hs
    go_enter Try.func26, Try.ntmps26
    go_wp2_with (first | (go_at_call 49; refine (l2Sand_any k s _).mono ?_; rintro e w' ⟨rfl, hb⟩; have hB : Below w.heap.size w w' := Below.trans (by (repeat first | (with_reducible assumption) | (with_reducible exact Below.refl _ _) | ((with_reducible refine bl_alloc _ ?_ ?_); focus (first | (simp; done) | (simp; omega) | omega)) | ((with_reducible refine bl_set _ ?_ ?_); focus (first | (simp; done) | (simp; omega) | omega)) | (with_reducible refine Below.drew ?_) | (with_reducible refine bl_drewN _ ?_))) (hb.mono (by first | (simp; done) | (simp; omega) | omega)); obtain ⟨hc, hf⟩ := bcell hb; have hz := hb.size; (try simp at hz); (try have hy0 : w.heap.size < w'.heap.size := by omega); (try have hy1 : w.heap.size + 1 < w'.heap.size := by omega); (try have hy2 : w.heap.size + 1 + 1 < w'.heap.size := by omega); (try have hy3 : w.heap.size + 1 + 1 + 1 < w'.heap.size := by omega); clear hb))
    refine wp_loop_rounds 5 ?_
    go_wp2_with (first | (rw [rounds_succ]) | (go_at_call 58; refine (l2Gcd_any _ _ (by (repeat' (first | omega | exact gcdF_nonneg _ _ | refine gcdF_le ⟨?_, ?_⟩ ⟨?_, ?_⟩))) (by (repeat' (first | omega | exact gcdF_nonneg _ _ | refine gcdF_le ⟨?_, ?_⟩ ⟨?_, ?_⟩))) (by (repeat' (first | omega | exact gcdF_nonneg _ _ | refine gcdF_le ⟨?_, ?_⟩ ⟨?_, ?_⟩))) (by (repeat' (first | omega | exact gcdF_nonneg _ _ | refine gcdF_le ⟨?_, ?_⟩ ⟨?_, ?_⟩))) _).mono ?_; rintro e w' ⟨rfl, nq, rfl⟩))
    go_ret2
    exact ⟨by simp [optI, gcdTo, *], by (repeat first | (with_reducible assumption) | (with_reducible exact Below.refl _ _) | ((with_reducible refine bl_alloc _ ?_ ?_); focus (first | (simp; done) | (simp; omega) | omega)) | ((with_reducible refine bl_set _ ?_ ?_); focus (first | (simp; done) | (simp; omega) | omega)) | (with_reducible refine Below.drew ?_) | (with_reducible refine bl_drewN _ ?_))⟩
  all_goals
    go_enter Try.func26, Try.ntmps26
    go_wp2_with (first | (go_at_call 49; refine (l2Sand_any k s _).mono ?_; rintro e w' ⟨rfl, hb⟩; have hB : Below w.heap.size w w' := Below.trans (by (repeat first | (with_reducible assumption) | (with_reducible exact Below.refl _ _) | ((with_reducible refine bl_alloc _ ?_ ?_); focus (first | (simp; done) | (simp; omega) | omega)) | ((with_reducible refine bl_set _ ?_ ?_); focus (first | (simp; done) | (simp; omega) | omega)) | (with_reducible refine Below.drew ?_) | (with_reducible refine bl_drewN _ ?_))) (hb.mono (by first | (simp; done) | (simp; omega) | omega)); obtain ⟨hc, hf⟩ := bcell hb; have hz := hb.size; (try simp at hz); (try have hy0 : w.heap.size < w'.heap.size := by omega); (try have hy1 : w.heap.size + 1 < w'.heap.size := by omega); (try have hy2 : w.heap.size + 1 + 1 < w'.heap.size := by omega); (try have hy3 : w.heap.size + 1 + 1 + 1 < w'.heap.size := by omega); clear hb))
    go_ret2
    exact ⟨by simp [optI, *], by (repeat first | (with_reducible assumption) | (with_reducible exact Below.refl _ _) | ((with_reducible refine bl_alloc _ ?_ ?_); focus (first | (simp; done) | (simp; omega) | omega)) | ((with_reducible refine bl_set _ ?_ ?_); focus (first | (simp; done) | (simp; omega) | omega)) | (with_reducible refine Below.drew ?_) | (with_reducible refine bl_drewN _ ?_))⟩

set_option maxHeartbeats 800000 in
theorem specGlassGcd_any (k : Nat → Int) (w : World) : Calls Try.prog 22 #[A4 k] w fun e w' => e = .returned (.tuple #[.int .i64 (optI (glassTo k 4) (isKitB k)), .bool (isKitB k)]) ∧ Below w.heap.size w w' := by
  cases h1 : isKitB k
  · go_enter Try.func22, Try.ntmps22
    go_wp2_with (first | (go_at_call 52; refine (l2Kit_any k _).mono ?_; rintro e w' ⟨rfl, hb⟩; have hB : Below w.heap.size w w' := Below.trans (by (repeat first | (with_reducible assumption) | (with_reducible exact Below.refl _ _) | ((with_reducible refine bl_alloc _ ?_ ?_); focus (first | (simp; done) | (simp; omega) | omega)) | ((with_reducible refine bl_set _ ?_ ?_); focus (first | (simp; done) | (simp; omega) | omega)) | (with_reducible refine Below.drew ?_) | (with_reducible refine bl_drewN _ ?_))) (hb.mono (by first | (simp; done) | (simp; omega) | omega)); obtain ⟨hc, hf⟩ := bcell hb; have hz := hb.size; (try simp at hz); (try have hy0 : w.heap.size < w'.heap.size := by omega); (try have hy1 : w.heap.size + 1 < w'.heap.size := by omega); (try have hy2 : w.heap.size + 1 + 1 < w'.heap.size := by omega); (try have hy3 : w.heap.size + 1 + 1 + 1 < w'.heap.size := by omega); clear hb))
    go_ret2
    exact ⟨by simp [optI, *], by (repeat first | (with_reducible assumption) | (with_reducible exact Below.refl _ _) | ((with_reducible refine bl_alloc _ ?_ ?_); focus (first | (simp; done) | (simp; omega) | omega)) | ((with_reducible refine bl_set _ ?_ ?_); focus (first | (simp; done) | (simp; omega) | omega)) | (with_reducible refine Below.drew ?_) | (with_reducible refine bl_drewN _ ?_))⟩
  · have hkb := kit_bounds h1
    have kb0 := hkb 0 (by omega)
    have kb1 := hkb 1 (by omega)
    have kb2 := hkb 2 (by omega)
    have kb3 := hkb 3 (by omega)
    have gb0 := glassTo_b hkb 0 (by omega)
    have gb1 := glassTo_b hkb 1 (by omega)
    have gb2 := glassTo_b hkb 2 (by omega)
    have gb3 := glassTo_b hkb 3 (by omega)
    have gb4 := glassTo_b hkb 4 (by omega)
    clear hkb
    go_enter Try.func22, Try.ntmps22
    go_wp2_with fail
    refine (l2Kit_any k _).mono ?_
    rintro e w1 ⟨rfl, hb1⟩
    have cw100 : w1.cell? ⟨w.heap.size, 0, none⟩ = some (.int .i64 (k 0)) := keep_below hb1 (by first | (with_reducible assumption) | (simp [go_sem]; done) | (simp [go_sem, *]; done))
    have cw101 : w1.cell? ⟨w.heap.size, 1, none⟩ = some (.int .i64 (k 1)) := keep_below hb1 (by first | (with_reducible assumption) | (simp [go_sem]; done) | (simp [go_sem, *]; done))
    have cw102 : w1.cell? ⟨w.heap.size, 2, none⟩ = some (.int .i64 (k 2)) := keep_below hb1 (by first | (with_reducible assumption) | (simp [go_sem]; done) | (simp [go_sem, *]; done))
    have cw103 : w1.cell? ⟨w.heap.size, 3, none⟩ = some (.int .i64 (k 3)) := keep_below hb1 (by first | (with_reducible assumption) | (simp [go_sem]; done) | (simp [go_sem, *]; done))
    have yw10 := there cw100
    have Bw1 : Below w.heap.size w w1 := below_chain (by (repeat first | (with_reducible assumption) | (with_reducible exact Below.refl _ _) | ((with_reducible refine bl_alloc _ ?_ ?_); focus (first | (simp; done) | (simp; omega) | omega)) | ((with_reducible refine bl_set _ ?_ ?_); focus (first | (simp; done) | (simp; omega) | omega)) | (with_reducible refine Below.drew ?_) | (with_reducible refine bl_drewN _ ?_))) hb1
    clear hb1
    go_wp2_with fail
    go_loopw [4, 5] (fun g i wr => ∃ j : Nat, j ≤ 4 ∧ i = .int .i64 j ∧ g = .int .i64 (glassTo k j) ∧ ∃ n, wr = w1.drewN n) (fun _ i _ => 4 - (intOf i).toNat)
    case atStart => exact ⟨0, by omega, rfl, rfl, 0, rfl⟩
    case round =>
      obtain ⟨j, hj, rfl, rfl, n, rfl⟩ := hrel
      obtain rfl | rfl | rfl | rfl | rfl : j = 0 ∨ j = 1 ∨ j = 2 ∨ j = 3 ∨ j = 4 := by omega
      · by_cases p : 0 < k 0
        · generalize hg : glassTo k 0 = g at *
          have HG : Hid (glassTo k 0 = g) := hg
          clear hg
          go_wp2_with (first | (go_at_call 58; refine (l2Gcd_any _ _ (by (repeat' (first | omega | exact gcdF_nonneg _ _ | refine gcdF_le ⟨?_, ?_⟩ ⟨?_, ?_⟩))) (by (repeat' (first | omega | exact gcdF_nonneg _ _ | refine gcdF_le ⟨?_, ?_⟩ ⟨?_, ?_⟩))) (by (repeat' (first | omega | exact gcdF_nonneg _ _ | refine gcdF_le ⟨?_, ?_⟩ ⟨?_, ?_⟩))) (by (repeat' (first | omega | exact gcdF_nonneg _ _ | refine gcdF_le ⟨?_, ?_⟩ ⟨?_, ?_⟩))) _).mono ?_; rintro e w' ⟨rfl, nq, rfl⟩))
          go_roundw
          case rel => exact ⟨0 + 1, by omega, by go_num, by rw [glassTo, HG.out, gcdF_comm], _, by first | rfl | exact World.drewN_drewN _ _ _⟩
          case measure => simp [intOf]
        · generalize hg : glassTo k 0 = g at *
          have HG : Hid (glassTo k 0 = g) := hg
          clear hg
          go_wp2_with (first | (go_at_call 58; refine (l2Gcd_any _ _ (by (repeat' (first | omega | exact gcdF_nonneg _ _ | refine gcdF_le ⟨?_, ?_⟩ ⟨?_, ?_⟩))) (by (repeat' (first | omega | exact gcdF_nonneg _ _ | refine gcdF_le ⟨?_, ?_⟩ ⟨?_, ?_⟩))) (by (repeat' (first | omega | exact gcdF_nonneg _ _ | refine gcdF_le ⟨?_, ?_⟩ ⟨?_, ?_⟩))) (by (repeat' (first | omega | exact gcdF_nonneg _ _ | refine gcdF_le ⟨?_, ?_⟩ ⟨?_, ?_⟩))) _).mono ?_; rintro e w' ⟨rfl, nq, rfl⟩))
          go_roundw
          case rel => exact ⟨0 + 1, by omega, by go_num, by rw [glassTo, HG.out, show k 0 = 0 by omega, gcdF_zero (by omega)], _, rfl⟩
          case measure => simp [intOf]
      · by_cases p : 0 < k 1
        · generalize hg : glassTo k 1 = g at *
          have HG : Hid (glassTo k 1 = g) := hg
          clear hg
          go_wp2_with (first | (go_at_call 58; refine (l2Gcd_any _ _ (by (repeat' (first | omega | exact gcdF_nonneg _ _ | refine gcdF_le ⟨?_, ?_⟩ ⟨?_, ?_⟩))) (by (repeat' (first | omega | exact gcdF_nonneg _ _ | refine gcdF_le ⟨?_, ?_⟩ ⟨?_, ?_⟩))) (by (repeat' (first | omega | exact gcdF_nonneg _ _ | refine gcdF_le ⟨?_, ?_⟩ ⟨?_, ?_⟩))) (by (repeat' (first | omega | exact gcdF_nonneg _ _ | refine gcdF_le ⟨?_, ?_⟩ ⟨?_, ?_⟩))) _).mono ?_; rintro e w' ⟨rfl, nq, rfl⟩))
          go_roundw
          case rel => exact ⟨1 + 1, by omega, by go_num, by rw [glassTo, HG.out, gcdF_comm], _, by first | rfl | exact World.drewN_drewN _ _ _⟩
          case measure => simp [intOf]
        · generalize hg : glassTo k 1 = g at *
          have HG : Hid (glassTo k 1 = g) := hg
          clear hg
          go_wp2_with (first | (go_at_call 58; refine (l2Gcd_any _ _ (by (repeat' (first | omega | exact gcdF_nonneg _ _ | refine gcdF_le ⟨?_, ?_⟩ ⟨?_, ?_⟩))) (by (repeat' (first | omega | exact gcdF_nonneg _ _ | refine gcdF_le ⟨?_, ?_⟩ ⟨?_, ?_⟩))) (by (repeat' (first | omega | exact gcdF_nonneg _ _ | refine gcdF_le ⟨?_, ?_⟩ ⟨?_, ?_⟩))) (by (repeat' (first | omega | exact gcdF_nonneg _ _ | refine gcdF_le ⟨?_, ?_⟩ ⟨?_, ?_⟩))) _).mono ?_; rintro e w' ⟨rfl, nq, rfl⟩))
          go_roundw
          case rel => exact ⟨1 + 1, by omega, by go_num, by rw [glassTo, HG.out, show k 1 = 0 by omega, gcdF_zero (by omega)], _, rfl⟩
          case measure => simp [intOf]
      · by_cases p : 0 < k 2
        · generalize hg : glassTo k 2 = g at *
          have HG : Hid (glassTo k 2 = g) := hg
          clear hg
          go_wp2_with (first | (go_at_call 58; refine (l2Gcd_any _ _ (by (repeat' (first | omega | exact gcdF_nonneg _ _ | refine gcdF_le ⟨?_, ?_⟩ ⟨?_, ?_⟩))) (by (repeat' (first | omega | exact gcdF_nonneg _ _ | refine gcdF_le ⟨?_, ?_⟩ ⟨?_, ?_⟩))) (by (repeat' (first | omega | exact gcdF_nonneg _ _ | refine gcdF_le ⟨?_, ?_⟩ ⟨?_, ?_⟩))) (by (repeat' (first | omega | exact gcdF_nonneg _ _ | refine gcdF_le ⟨?_, ?_⟩ ⟨?_, ?_⟩))) _).mono ?_; rintro e w' ⟨rfl, nq, rfl⟩))
          go_roundw
          case rel => exact ⟨2 + 1, by omega, by go_num, by rw [glassTo, HG.out, gcdF_comm], _, by first | rfl | exact World.drewN_drewN _ _ _⟩
          case measure => simp [intOf]
        · generalize hg : glassTo k 2 = g at *
          have HG : Hid (glassTo k 2 = g) := hg
          clear hg
          go_wp2_with (first | (go_at_call 58; refine (l2Gcd_any _ _ (by (repeat' (first | omega | exact gcdF_nonneg _ _ | refine gcdF_le ⟨?_, ?_⟩ ⟨?_, ?_⟩))) (by (repeat' (first | omega | exact gcdF_nonneg _ _ | refine gcdF_le ⟨?_, ?_⟩ ⟨?_, ?_⟩))) (by (repeat' (first | omega | exact gcdF_nonneg _ _ | refine gcdF_le ⟨?_, ?_⟩ ⟨?_, ?_⟩))) (by (repeat' (first | omega | exact gcdF_nonneg _ _ | refine gcdF_le ⟨?_, ?_⟩ ⟨?_, ?_⟩))) _).mono ?_; rintro e w' ⟨rfl, nq, rfl⟩))
          go_roundw
          case rel => exact ⟨2 + 1, by omega, by go_num, by rw [glassTo, HG.out, show k 2 = 0 by omega, gcdF_zero (by omega)], _, rfl⟩
          case measure => simp [intOf]
      · by_cases p : 0 < k 3
        · generalize hg : glassTo k 3 = g at *
          have HG : Hid (glassTo k 3 = g) := hg
          clear hg
          go_wp2_with (first | (go_at_call 58; refine (l2Gcd_any _ _ (by (repeat' (first | omega | exact gcdF_nonneg _ _ | refine gcdF_le ⟨?_, ?_⟩ ⟨?_, ?_⟩))) (by (repeat' (first | omega | exact gcdF_nonneg _ _ | refine gcdF_le ⟨?_, ?_⟩ ⟨?_, ?_⟩))) (by (repeat' (first | omega | exact gcdF_nonneg _ _ | refine gcdF_le ⟨?_, ?_⟩ ⟨?_, ?_⟩))) (by (repeat' (first | omega | exact gcdF_nonneg _ _ | refine gcdF_le ⟨?_, ?_⟩ ⟨?_, ?_⟩))) _).mono ?_; rintro e w' ⟨rfl, nq, rfl⟩))
          go_roundw
          case rel => exact ⟨3 + 1, by omega, by go_num, by rw [glassTo, HG.out, gcdF_comm], _, by first | rfl | exact World.drewN_drewN _ _ _⟩
          case measure => simp [intOf]
        · generalize hg : glassTo k 3 = g at *
          have HG : Hid (glassTo k 3 = g) := hg
          clear hg
          go_wp2_with (first | (go_at_call 58; refine (l2Gcd_any _ _ (by (repeat' (first | omega | exact gcdF_nonneg _ _ | refine gcdF_le ⟨?_, ?_⟩ ⟨?_, ?_⟩))) (by (repeat' (first | omega | exact gcdF_nonneg _ _ | refine gcdF_le ⟨?_, ?_⟩ ⟨?_, ?_⟩))) (by (repeat' (first | omega | exact gcdF_nonneg _ _ | refine gcdF_le ⟨?_, ?_⟩ ⟨?_, ?_⟩))) (by (repeat' (first | omega | exact gcdF_nonneg _ _ | refine gcdF_le ⟨?_, ?_⟩ ⟨?_, ?_⟩))) _).mono ?_; rintro e w' ⟨rfl, nq, rfl⟩))
          go_roundw
          case rel => exact ⟨3 + 1, by omega, by go_num, by rw [glassTo, HG.out, show k 3 = 0 by omega, gcdF_zero (by omega)], _, rfl⟩
          case measure => simp [intOf]
      · generalize hg : glassTo k 4 = g at *
        have HG : Hid (glassTo k 4 = g) := hg
        clear hg
        go_wp2_with fail
        go_ret2
        exact ⟨by simp [optI, HG.out], by (repeat first | (with_reducible assumption) | (with_reducible exact Below.refl _ _) | ((with_reducible refine bl_alloc _ ?_ ?_); focus (first | (simp; done) | (simp; omega) | omega)) | ((with_reducible refine bl_set _ ?_ ?_); focus (first | (simp; done) | (simp; omega) | omega)) | (with_reducible refine Below.drew ?_) | (with_reducible refine bl_drewN _ ?_))⟩

theorem calm_sand {k : Nat → Int} (h : isKitB k = true) : isSandB k (fun _ => 0) = true := by
  have hb := kit_bounds h
  have h0 := hb 0 (by omega)
  have h1 := hb 1 (by omega)
  have h2 := hb 2 (by omega)
  have h3 := hb 3 (by omega)
  simp [isSandB, inB]; omega
theorem CommonMinutes_calm (k : Nat → Int) (w : World) : Calls Try.prog 27 #[A4 k, A4 (fun _ => 0)] w fun e w' => e = .returned (.tuple #[.int .i64 (optI (glassTo k 4) (isKitB k)), .bool (isKitB k)]) ∧ Below w.heap.size w w' := by
  have h := CommonMinutes_any k (fun _ => 0) w
  have e : (isKitB k && isSandB k (fun _ => 0)) = isKitB k := by
    cases h1 : isKitB k
    · rfl
    · rw [calm_sand h1]; rfl
  rw [e, gcdTo_calm] at h
  exact h
theorem GlassGcd_any (k : Nat → Int) (w : World) : Calls Try.prog 23 #[A4 k] w fun e w' => e = .returned (.tuple #[.int .i64 (optI (glassTo k 4) (isKitB k)), .bool (isKitB k)]) ∧ Below w.heap.size w w' := by
  go_enter Try.func23, Try.ntmps23
  go_wp2_with fail
  go_region_held3 (fun w' => w'.cell? ⟨w.heap.size, 0, none⟩ = some (.int .i64 (k 0)) ∧ w'.cell? ⟨w.heap.size, 1, none⟩ = some (.int .i64 (k 1)) ∧ w'.cell? ⟨w.heap.size, 2, none⟩ = some (.int .i64 (k 2)) ∧ w'.cell? ⟨w.heap.size, 3, none⟩ = some (.int .i64 (k 3)) ∧ Below w.heap.size w w')
    (first | (go_split_ands; (repeat' (with_reducible apply And.intro)); all_goals (first | (first | (with_reducible assumption) | (simp; done) | (simp [World.cell?_alloc_at, World.cell?_alloc_past]; done) | (with_reducible refine keep_alloc _ ?_; with_reducible assumption) | (with_reducible refine keep_drew ?_; with_reducible assumption) | (with_reducible refine keep_alloc _ (keep_drew ?_); with_reducible assumption) | (with_reducible refine keep_drew (keep_alloc _ ?_); with_reducible assumption) | (with_reducible refine keep_alloc _ (keep_alloc _ ?_); with_reducible assumption) | (with_reducible refine keep_alloc _ (keep_alloc _ (keep_alloc _ ?_)); with_reducible assumption) | (simp [*]; done)) | ((with_reducible refine keep_below hb ?_); (first | (with_reducible assumption) | (simp; done) | (simp [World.cell?_alloc_at, World.cell?_alloc_past]; done) | (with_reducible refine keep_alloc _ ?_; with_reducible assumption) | (with_reducible refine keep_drew ?_; with_reducible assumption) | (with_reducible refine keep_alloc _ (keep_drew ?_); with_reducible assumption) | (with_reducible refine keep_drew (keep_alloc _ ?_); with_reducible assumption) | (with_reducible refine keep_alloc _ (keep_alloc _ ?_); with_reducible assumption) | (with_reducible refine keep_alloc _ (keep_alloc _ (keep_alloc _ ?_)); with_reducible assumption) | (simp [*]; done))) | ((repeat first | (with_reducible assumption) | (with_reducible exact Below.refl _ _) | ((with_reducible refine bl_alloc _ ?_ ?_); focus (first | (simp; done) | (simp; omega) | omega)) | ((with_reducible refine bl_set _ ?_ ?_); focus (first | (simp; done) | (simp; omega) | omega)) | (with_reducible refine Below.drew ?_) | (with_reducible refine bl_drewN _ ?_)); done) | ((with_reducible refine below_chain ?_ hb); ((repeat first | (with_reducible assumption) | (with_reducible exact Below.refl _ _) | ((with_reducible refine bl_alloc _ ?_ ?_); focus (first | (simp; done) | (simp; omega) | omega)) | ((with_reducible refine bl_set _ ?_ ?_); focus (first | (simp; done) | (simp; omega) | omega)) | (with_reducible refine Below.drew ?_) | (with_reducible refine bl_drewN _ ?_)); done)))))
    (first | (go_at_call 59; refine (calm_any _).mono ?_; rintro e w1 ⟨rfl, hb⟩) | (go_at_call 27; refine (CommonMinutes_calm k _).mono ?_; rintro e w1 ⟨rfl, hb⟩))
  go_split_ands
  go_wp2_with fail
  go_ret2
  exact ⟨rfl, by (repeat first | (with_reducible assumption) | (with_reducible exact Below.refl _ _) | ((with_reducible refine bl_alloc _ ?_ ?_); focus (first | (simp; done) | (simp; omega) | omega)) | ((with_reducible refine bl_set _ ?_ ?_); focus (first | (simp; done) | (simp; omega) | omega)) | (with_reducible refine Below.drew ?_) | (with_reducible refine bl_drewN _ ?_))⟩

theorem l2Kept_sc (k : Nat → Int) (b : Int) (w : World) : Calls Try.prog 54 #[A4 (fun j => wrap64 (b * k j))] w fun e w' => e = .returned (.tuple #[A4 (opt (scaleF k b) (isKitB (scaleF k b))), .bool (isKitB (scaleF k b))]) ∧ Below w.heap.size w w' := by
  rw [show (fun j => wrap64 (b * k j)) = scaleF k b from funext fun j => by rw [Int.mul_comm]; rfl]
  exact l2Kept_any (scaleF k b) w

set_option maxHeartbeats 800000 in
theorem ScaleKit_any (k : Nat → Int) (b : Int) (w : World) : Calls Try.prog 20 #[A4 k, .int .i64 b] w fun e w' => e = .returned (.tuple #[A4 (opt (scaleF k b) (isKitB k && inB 1 30 b && isKitB (scaleF k b))), .bool (isKitB k && inB 1 30 b && isKitB (scaleF k b))]) ∧ Below w.heap.size w w' := by
  cases h1 : isKitB k <;> cases h2 : inB 1 30 b
  case true.true =>
    cases h3 : isKitB (scaleF k b)
    all_goals
      go_enter Try.func20, Try.ntmps20
      go_wp2_with (first | (go_at_call 55; refine (isKit_any k _).mono ?_; rintro e w' ⟨rfl, hb⟩; have hB : Below w.heap.size w w' := Below.trans (by (repeat first | (with_reducible assumption) | (with_reducible exact Below.refl _ _) | ((with_reducible refine bl_alloc _ ?_ ?_); focus (first | (simp; done) | (simp; omega) | omega)) | ((with_reducible refine bl_set _ ?_ ?_); focus (first | (simp; done) | (simp; omega) | omega)) | (with_reducible refine Below.drew ?_) | (with_reducible refine bl_drewN _ ?_))) (hb.mono (by first | (simp; done) | (simp; omega) | omega)); obtain ⟨hc, hf⟩ := bcell hb; have hz := hb.size; (try simp at hz); (try have hy0 : w.heap.size < w'.heap.size := by omega); (try have hy1 : w.heap.size + 1 < w'.heap.size := by omega); (try have hy2 : w.heap.size + 1 + 1 < w'.heap.size := by omega); (try have hy3 : w.heap.size + 1 + 1 + 1 < w'.heap.size := by omega); clear hb; (have c0 : w'.cell? ⟨w.heap.size, 0, none⟩ = some (.int .i64 (k 0)) := by rw [hc _ _ (by first | (simp; done) | (simp; omega))]; simp); (have f0 : w'.frozen? ⟨w.heap.size, 0, none⟩ = false := by rw [hf _ _ (by first | (simp; done) | (simp; omega))]; simp); (have c1 : w'.cell? ⟨w.heap.size, 1, none⟩ = some (.int .i64 (k 1)) := by rw [hc _ _ (by first | (simp; done) | (simp; omega))]; simp); (have f1 : w'.frozen? ⟨w.heap.size, 1, none⟩ = false := by rw [hf _ _ (by first | (simp; done) | (simp; omega))]; simp); (have c2 : w'.cell? ⟨w.heap.size, 2, none⟩ = some (.int .i64 (k 2)) := by rw [hc _ _ (by first | (simp; done) | (simp; omega))]; simp); (have f2 : w'.frozen? ⟨w.heap.size, 2, none⟩ = false := by rw [hf _ _ (by first | (simp; done) | (simp; omega))]; simp); (have c3 : w'.cell? ⟨w.heap.size, 3, none⟩ = some (.int .i64 (k 3)) := by rw [hc _ _ (by first | (simp; done) | (simp; omega))]; simp); (have f3 : w'.frozen? ⟨w.heap.size, 3, none⟩ = false := by rw [hf _ _ (by first | (simp; done) | (simp; omega))]; simp)) | (go_at_call 56; refine (within_any _ _ _ _).mono ?_; rintro e w' ⟨rfl, rfl⟩))
      refine wp_loop_rounds 5 ?_
      go_wp2_with (first | (rw [rounds_succ]) | (go_at_call 57; refine (kitOr_any (scaleF k b) _).mono ?_; rintro e w' ⟨rfl, hb⟩; have hB : Below w.heap.size w w' := Below.trans (by (repeat first | (with_reducible assumption) | (with_reducible exact Below.refl _ _) | ((with_reducible refine bl_alloc _ ?_ ?_); focus (first | (simp; done) | (simp; omega) | omega)) | ((with_reducible refine bl_set _ ?_ ?_); focus (first | (simp; done) | (simp; omega) | omega)) | (with_reducible refine Below.drew ?_) | (with_reducible refine bl_drewN _ ?_))) (hb.mono (by first | (simp; done) | (simp; omega) | omega)); obtain ⟨hc2, hf2⟩ := bcell hb; have hz2 := hb.size; (try simp at hz2); (try have hy0 : w.heap.size < w'.heap.size := by omega); (try have hy1 : w.heap.size + 1 < w'.heap.size := by omega); (try have hy2 : w.heap.size + 1 + 1 < w'.heap.size := by omega); (try have hy3 : w.heap.size + 1 + 1 + 1 < w'.heap.size := by omega); clear hb))
      refine bodyPost_ret (v := .tuple #[A4 (opt (scaleF k b) (isKitB k && inB 1 30 b && isKitB (scaleF k b))), .bool (isKitB k && inB 1 30 b && isKitB (scaleF k b))]) (by simp [results, Try.results20, go_sem, opt, *]) rfl ⟨by simp [*], by (repeat first | (with_reducible assumption) | (with_reducible exact Below.refl _ _) | ((with_reducible refine bl_alloc _ ?_ ?_); focus (first | (simp; done) | (simp; omega) | omega)) | ((with_reducible refine bl_set _ ?_ ?_); focus (first | (simp; done) | (simp; omega) | omega)) | (with_reducible refine Below.drew ?_) | (with_reducible refine bl_drewN _ ?_))⟩
  all_goals
    go_enter Try.func20, Try.ntmps20
    go_wp2_with (first | (go_at_call 55; refine (isKit_any k _).mono ?_; rintro e w' ⟨rfl, hb⟩; have hB : Below w.heap.size w w' := Below.trans (by (repeat first | (with_reducible assumption) | (with_reducible exact Below.refl _ _) | ((with_reducible refine bl_alloc _ ?_ ?_); focus (first | (simp; done) | (simp; omega) | omega)) | ((with_reducible refine bl_set _ ?_ ?_); focus (first | (simp; done) | (simp; omega) | omega)) | (with_reducible refine Below.drew ?_) | (with_reducible refine bl_drewN _ ?_))) (hb.mono (by first | (simp; done) | (simp; omega) | omega)); obtain ⟨hc, hf⟩ := bcell hb; have hz := hb.size; (try simp at hz); (try have hy0 : w.heap.size < w'.heap.size := by omega); (try have hy1 : w.heap.size + 1 < w'.heap.size := by omega); (try have hy2 : w.heap.size + 1 + 1 < w'.heap.size := by omega); (try have hy3 : w.heap.size + 1 + 1 + 1 < w'.heap.size := by omega); clear hb; (have c0 : w'.cell? ⟨w.heap.size, 0, none⟩ = some (.int .i64 (k 0)) := by rw [hc _ _ (by first | (simp; done) | (simp; omega))]; simp); (have f0 : w'.frozen? ⟨w.heap.size, 0, none⟩ = false := by rw [hf _ _ (by first | (simp; done) | (simp; omega))]; simp); (have c1 : w'.cell? ⟨w.heap.size, 1, none⟩ = some (.int .i64 (k 1)) := by rw [hc _ _ (by first | (simp; done) | (simp; omega))]; simp); (have f1 : w'.frozen? ⟨w.heap.size, 1, none⟩ = false := by rw [hf _ _ (by first | (simp; done) | (simp; omega))]; simp); (have c2 : w'.cell? ⟨w.heap.size, 2, none⟩ = some (.int .i64 (k 2)) := by rw [hc _ _ (by first | (simp; done) | (simp; omega))]; simp); (have f2 : w'.frozen? ⟨w.heap.size, 2, none⟩ = false := by rw [hf _ _ (by first | (simp; done) | (simp; omega))]; simp); (have c3 : w'.cell? ⟨w.heap.size, 3, none⟩ = some (.int .i64 (k 3)) := by rw [hc _ _ (by first | (simp; done) | (simp; omega))]; simp); (have f3 : w'.frozen? ⟨w.heap.size, 3, none⟩ = false := by rw [hf _ _ (by first | (simp; done) | (simp; omega))]; simp)) | (go_at_call 56; refine (within_any _ _ _ _).mono ?_; rintro e w' ⟨rfl, rfl⟩))
    refine bodyPost_ret (v := .tuple #[A4 (opt (scaleF k b) (isKitB k && inB 1 30 b && isKitB (scaleF k b))), .bool (isKitB k && inB 1 30 b && isKitB (scaleF k b))]) (by simp [results, Try.results20, go_sem, opt, *]) rfl ⟨by simp [*], by (repeat first | (with_reducible assumption) | (with_reducible exact Below.refl _ _) | ((with_reducible refine bl_alloc _ ?_ ?_); focus (first | (simp; done) | (simp; omega) | omega)) | ((with_reducible refine bl_set _ ?_ ?_); focus (first | (simp; done) | (simp; omega) | omega)) | (with_reducible refine Below.drew ?_) | (with_reducible refine bl_drewN _ ?_))⟩

set_option maxHeartbeats 800000 in
theorem specScaleKit_any (k : Nat → Int) (b : Int) (w : World) : Calls Try.prog 19 #[A4 k, .int .i64 b] w fun e w' => e = .returned (.tuple #[A4 (opt (scaleF k b) (isKitB k && inB 1 30 b && isKitB (scaleF k b))), .bool (isKitB k && inB 1 30 b && isKitB (scaleF k b))]) ∧ Below w.heap.size w w' := by
  cases h1 : isKitB k <;> cases h2 : inB 1 30 b
  case true.true =>
    cases h3 : isKitB (scaleF k b)
    all_goals
      go_enter Try.func19, Try.ntmps19
      go_wp2_with (first | (go_at_call 52; refine (l2Kit_any k _).mono ?_; rintro e w' ⟨rfl, hb⟩; have hB : Below w.heap.size w w' := Below.trans (by (repeat first | (with_reducible assumption) | (with_reducible exact Below.refl _ _) | ((with_reducible refine bl_alloc _ ?_ ?_); focus (first | (simp; done) | (simp; omega) | omega)) | ((with_reducible refine bl_set _ ?_ ?_); focus (first | (simp; done) | (simp; omega) | omega)) | (with_reducible refine Below.drew ?_) | (with_reducible refine bl_drewN _ ?_))) (hb.mono (by first | (simp; done) | (simp; omega) | omega)); obtain ⟨hc, hf⟩ := bcell hb; have hz := hb.size; (try simp at hz); (try have hy0 : w.heap.size < w'.heap.size := by omega); (try have hy1 : w.heap.size + 1 < w'.heap.size := by omega); (try have hy2 : w.heap.size + 1 + 1 < w'.heap.size := by omega); (try have hy3 : w.heap.size + 1 + 1 + 1 < w'.heap.size := by omega); clear hb; (have c0 : w'.cell? ⟨w.heap.size, 0, none⟩ = some (.int .i64 (k 0)) := by rw [hc _ _ (by first | (simp; done) | (simp; omega))]; simp); (have f0 : w'.frozen? ⟨w.heap.size, 0, none⟩ = false := by rw [hf _ _ (by first | (simp; done) | (simp; omega))]; simp); (have c1 : w'.cell? ⟨w.heap.size, 1, none⟩ = some (.int .i64 (k 1)) := by rw [hc _ _ (by first | (simp; done) | (simp; omega))]; simp); (have f1 : w'.frozen? ⟨w.heap.size, 1, none⟩ = false := by rw [hf _ _ (by first | (simp; done) | (simp; omega))]; simp); (have c2 : w'.cell? ⟨w.heap.size, 2, none⟩ = some (.int .i64 (k 2)) := by rw [hc _ _ (by first | (simp; done) | (simp; omega))]; simp); (have f2 : w'.frozen? ⟨w.heap.size, 2, none⟩ = false := by rw [hf _ _ (by first | (simp; done) | (simp; omega))]; simp); (have c3 : w'.cell? ⟨w.heap.size, 3, none⟩ = some (.int .i64 (k 3)) := by rw [hc _ _ (by first | (simp; done) | (simp; omega))]; simp); (have f3 : w'.frozen? ⟨w.heap.size, 3, none⟩ = false := by rw [hf _ _ (by first | (simp; done) | (simp; omega))]; simp)) | (go_at_call 53; refine (l1In_any _ _ _ _).mono ?_; rintro e w' ⟨rfl, rfl⟩))
      refine wp_loop_rounds 5 ?_
      go_wp2_with (first | (rw [rounds_succ]) | (go_at_call 54; refine (l2Kept_sc k b _).mono ?_; rintro e w' ⟨rfl, hb⟩; have hB : Below w.heap.size w w' := Below.trans (by (repeat first | (with_reducible assumption) | (with_reducible exact Below.refl _ _) | ((with_reducible refine bl_alloc _ ?_ ?_); focus (first | (simp; done) | (simp; omega) | omega)) | ((with_reducible refine bl_set _ ?_ ?_); focus (first | (simp; done) | (simp; omega) | omega)) | (with_reducible refine Below.drew ?_) | (with_reducible refine bl_drewN _ ?_))) (hb.mono (by first | (simp; done) | (simp; omega) | omega)); obtain ⟨hc2, hf2⟩ := bcell hb; have hz2 := hb.size; (try simp at hz2); (try have hy0 : w.heap.size < w'.heap.size := by omega); (try have hy1 : w.heap.size + 1 < w'.heap.size := by omega); (try have hy2 : w.heap.size + 1 + 1 < w'.heap.size := by omega); (try have hy3 : w.heap.size + 1 + 1 + 1 < w'.heap.size := by omega); clear hb) | (go_region))
      refine bodyPost_ret (v := .tuple #[A4 (opt (scaleF k b) (isKitB k && inB 1 30 b && isKitB (scaleF k b))), .bool (isKitB k && inB 1 30 b && isKitB (scaleF k b))]) (by simp [results, Try.results19, go_sem, opt, *]) rfl ⟨by simp [*], by (repeat first | (with_reducible assumption) | (with_reducible exact Below.refl _ _) | ((with_reducible refine bl_alloc _ ?_ ?_); focus (first | (simp; done) | (simp; omega) | omega)) | ((with_reducible refine bl_set _ ?_ ?_); focus (first | (simp; done) | (simp; omega) | omega)) | (with_reducible refine Below.drew ?_) | (with_reducible refine bl_drewN _ ?_))⟩
  all_goals
    go_enter Try.func19, Try.ntmps19
    go_wp2_with (first | (go_at_call 52; refine (l2Kit_any k _).mono ?_; rintro e w' ⟨rfl, hb⟩; have hB : Below w.heap.size w w' := Below.trans (by (repeat first | (with_reducible assumption) | (with_reducible exact Below.refl _ _) | ((with_reducible refine bl_alloc _ ?_ ?_); focus (first | (simp; done) | (simp; omega) | omega)) | ((with_reducible refine bl_set _ ?_ ?_); focus (first | (simp; done) | (simp; omega) | omega)) | (with_reducible refine Below.drew ?_) | (with_reducible refine bl_drewN _ ?_))) (hb.mono (by first | (simp; done) | (simp; omega) | omega)); obtain ⟨hc, hf⟩ := bcell hb; have hz := hb.size; (try simp at hz); (try have hy0 : w.heap.size < w'.heap.size := by omega); (try have hy1 : w.heap.size + 1 < w'.heap.size := by omega); (try have hy2 : w.heap.size + 1 + 1 < w'.heap.size := by omega); (try have hy3 : w.heap.size + 1 + 1 + 1 < w'.heap.size := by omega); clear hb; (have c0 : w'.cell? ⟨w.heap.size, 0, none⟩ = some (.int .i64 (k 0)) := by rw [hc _ _ (by first | (simp; done) | (simp; omega))]; simp); (have f0 : w'.frozen? ⟨w.heap.size, 0, none⟩ = false := by rw [hf _ _ (by first | (simp; done) | (simp; omega))]; simp); (have c1 : w'.cell? ⟨w.heap.size, 1, none⟩ = some (.int .i64 (k 1)) := by rw [hc _ _ (by first | (simp; done) | (simp; omega))]; simp); (have f1 : w'.frozen? ⟨w.heap.size, 1, none⟩ = false := by rw [hf _ _ (by first | (simp; done) | (simp; omega))]; simp); (have c2 : w'.cell? ⟨w.heap.size, 2, none⟩ = some (.int .i64 (k 2)) := by rw [hc _ _ (by first | (simp; done) | (simp; omega))]; simp); (have f2 : w'.frozen? ⟨w.heap.size, 2, none⟩ = false := by rw [hf _ _ (by first | (simp; done) | (simp; omega))]; simp); (have c3 : w'.cell? ⟨w.heap.size, 3, none⟩ = some (.int .i64 (k 3)) := by rw [hc _ _ (by first | (simp; done) | (simp; omega))]; simp); (have f3 : w'.frozen? ⟨w.heap.size, 3, none⟩ = false := by rw [hf _ _ (by first | (simp; done) | (simp; omega))]; simp)) | (go_at_call 53; refine (l1In_any _ _ _ _).mono ?_; rintro e w' ⟨rfl, rfl⟩))
    refine bodyPost_ret (v := .tuple #[A4 (opt (scaleF k b) (isKitB k && inB 1 30 b && isKitB (scaleF k b))), .bool (isKitB k && inB 1 30 b && isKitB (scaleF k b))]) (by simp [results, Try.results19, go_sem, opt, *]) rfl ⟨by simp [*], by (repeat first | (with_reducible assumption) | (with_reducible exact Below.refl _ _) | ((with_reducible refine bl_alloc _ ?_ ?_); focus (first | (simp; done) | (simp; omega) | omega)) | ((with_reducible refine bl_set _ ?_ ?_); focus (first | (simp; done) | (simp; omega) | omega)) | (with_reducible refine Below.drew ?_) | (with_reducible refine bl_drewN _ ?_))⟩

end Go.Proofs.Ytncjoipckkkmjaa
