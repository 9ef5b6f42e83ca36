/- Contracts of functions, written by a program of this repo out of the translation. No statement of the seat is proved here. -/
import Derived.Test.YtdbnajaimodnmaaQRo0
import Derived.Test.YtdbnajaimodnmaaExtR
namespace Go.Proofs.Ytdbnajaimodnmaa.QRo
open Go.RowKit Go.Proofs.YtdbnajaimodnmaaW.PrintWords Go.Proofs.YtdbnajaimodnmaaW.PrintLast Go.Proofs.YtdbnajaimodnmaaW.PrintMore
attribute [local go_sem] max2_int min2_int max_two min_two max_three min_three max_four min_four   -- for this text's walks alone
set_option linter.unusedVariables false
set_option linter.unusedSimpArgs false

/-! ### spec_l5Run: function 36 -/
mutual
def spec_l5Run.l0 : Nat → List (S36) → List Int → Int → Int → Int → Int → Int → Int → Int → Option (List Int × Int × Int × Int × Int × Int × Int × Bool)
  | 0, _, _, _, _, _, _, _, _, _ => none
  | k + 1, x1, x7, x8, x113000, x113001, x113002, x113003, x113004, x113005 => if x8 < (x1.length : Int) then (if 0 ≤ x8 then ((xL5Light.f x113000 x113001 x113002 x113003 x113004 x113005 ((rd_T36 x1 x8).f0) ((rd_T36 x1 x8).f1) ((rd_T36 x1 x8).f2)).bind fun bt118 => (if bt118.2.2.2.2.2.2 = true then ((xL5Next.f bt118.1 bt118.2.1 bt118.2.2.1 bt118.2.2.2.1 bt118.2.2.2.2.1 bt118.2.2.2.2.2.1).bind fun t126 => (spec_l5Run.j1 k x1 x7 x8 (t126 == 0) bt118.1 bt118.2.1 bt118.2.2.1 bt118.2.2.2.1 bt118.2.2.2.2.1 bt118.2.2.2.2.2.1)) else (spec_l5Run.j1 k x1 x7 x8 true bt118.1 bt118.2.1 bt118.2.2.1 bt118.2.2.2.1 bt118.2.2.2.2.1 bt118.2.2.2.2.2.1))) else (none)) else (some (x7, x113000, x113001, x113002, x113003, x113004, x113005, true))
def spec_l5Run.j1 : Nat → List (S36) → List Int → Int → Bool → Int → Int → Int → Int → Int → Int → Option (List Int × Int × Int × Int × Int × Int × Int × Bool)
  | 0, _, _, _, _, _, _, _, _, _, _ => none
  | k + 1, x1, x7, x8, x33, x126000, x126001, x126002, x126003, x126004, x126005 => if x33 = true then (some ((([] : List Int)), 0, 0, 0, 0, 0, 0, false)) else (if 0 ≤ x8 then (if x8 < (x7.length : Int) then ((xL5Next.f x126000 x126001 x126002 x126003 x126004 x126005).bind fun t131 => (if x7.length < 17592186044416 then ((xL5Next.f x126000 x126001 x126002 x126003 x126004 x126005).bind fun t135 => ((xL5Burn.f x126000 x126001 x126002 x126003 x126004 x126005 t135).bind fun bt136 => (spec_l5Run.l0 k x1 (x7 ++ [wrap64 ((rd x7 x8) + t131)]) (wrap64 (x8 + 1)) bt136.1 bt136.2.1 bt136.2.2.1 bt136.2.2.2.1 bt136.2.2.2.2.1 bt136.2.2.2.2.2))) else (none))) else (none)) else (none))
end
def spec_l5Run.f (k : Nat) (a0_0 : Int) (a0_1 : Int) (a0_2 : Int) (a0_3 : Int) (a0_4 : Int) (a0_5 : Int) (l1 : List (S36)) : Option (List Int × Int × Int × Int × Int × Int × Int × Bool) := spec_l5Run.l0 k l1 (([0] : List Int)) 0 a0_0 a0_1 a0_2 a0_3 a0_4 a0_5
theorem spec_l5Run.mono_l : ∀ k, (∀ y0 y1 y2 y3 y4 y5 y6 y7 y8, LeO (spec_l5Run.l0 k y0 y1 y2 y3 y4 y5 y6 y7 y8) (spec_l5Run.l0 (k + 1) y0 y1 y2 y3 y4 y5 y6 y7 y8)) ∧ (∀ y0 y1 y2 y3 y4 y5 y6 y7 y8 y9, LeO (spec_l5Run.j1 k y0 y1 y2 y3 y4 y5 y6 y7 y8 y9) (spec_l5Run.j1 (k + 1) y0 y1 y2 y3 y4 y5 y6 y7 y8 y9))
  | 0 => ⟨fun _ _ _ _ _ _ _ _ _ r h => by simp [spec_l5Run.l0] at h, fun _ _ _ _ _ _ _ _ _ _ r h => by simp [spec_l5Run.j1] at h⟩
  | k + 1 => by
    obtain ⟨ih0, ih1⟩ := spec_l5Run.mono_l k
    refine ⟨?_, ?_⟩
    · intro y0 y1 y2 y3 y4 y5 y6 y7 y8
      unfold spec_l5Run.l0
      repeat' first
      | (with_reducible exact ih0 _ _ _ _ _ _ _ _ _)
      | (with_reducible exact ih1 _ _ _ _ _ _ _ _ _ _)
      | (with_reducible exact LeO.refl _)
      | (with_reducible exact LeO.none _)
      | (with_reducible refine LeO.ite ?_ ?_)
      | (with_reducible refine LeO.bind ?_ (fun _ => ?_))
      | exact ih0 _ _ _ _ _ _ _ _ _
      | exact ih1 _ _ _ _ _ _ _ _ _ _
      | exact LeO.none _
      | refine LeO.ite ?_ ?_
      | refine LeO.bind ?_ (fun _ => ?_)
    · intro y0 y1 y2 y3 y4 y5 y6 y7 y8 y9
      unfold spec_l5Run.j1
      repeat' first
      | (with_reducible exact ih0 _ _ _ _ _ _ _ _ _)
      | (with_reducible exact ih1 _ _ _ _ _ _ _ _ _ _)
      | (with_reducible exact LeO.refl _)
      | (with_reducible exact LeO.none _)
      | (with_reducible refine LeO.ite ?_ ?_)
      | (with_reducible refine LeO.bind ?_ (fun _ => ?_))
      | exact ih0 _ _ _ _ _ _ _ _ _
      | exact ih1 _ _ _ _ _ _ _ _ _ _
      | exact LeO.none _
      | refine LeO.ite ?_ ?_
      | refine LeO.bind ?_ (fun _ => ?_)
theorem spec_l5Run.mono : ∀ a0 a1 a2 a3 a4 a5 a6 k, LeO (spec_l5Run.f k a0 a1 a2 a3 a4 a5 a6) (spec_l5Run.f (k + 1) a0 a1 a2 a3 a4 a5 a6) := by
  intro a0 a1 a2 a3 a4 a5 a6 k
  obtain ⟨ih0, ih1⟩ := spec_l5Run.mono_l k
  unfold spec_l5Run.f
  repeat' first
      | (with_reducible exact ih0 _ _ _ _ _ _ _ _ _)
      | (with_reducible exact ih1 _ _ _ _ _ _ _ _ _ _)
      | (with_reducible exact LeO.refl _)
      | (with_reducible exact LeO.none _)
      | (with_reducible refine LeO.ite ?_ ?_)
      | (with_reducible refine LeO.bind ?_ (fun _ => ?_))
      | exact ih0 _ _ _ _ _ _ _ _ _
      | exact ih1 _ _ _ _ _ _ _ _ _ _
      | exact LeO.none _
      | refine LeO.ite ?_ ?_
      | refine LeO.bind ?_ (fun _ => ?_)
def spec_l5Run.T5 : Bool × List (List Nat × List Nat) := (true, [([], []), ([], []), ([], []), ([1, 2], [1, 2]), ([3], [3]), ([0, 4], [0, 4]), ([5], [5]), ([6], [6]), ([6], [6]), ([], []), ([9, 7, 5, 0, 1, 2, 3, 4, 5, 6, 7, 9], [7, 9]), ([8, 10, 0, 1, 2, 3, 4, 5, 6, 7, 8, 9, 10], [8])])
def spec_l5Run.B5 : List Nat := [0, 0, 0, 6, 14, 31, 63, 127, 127, 0, 767, 2047]
theorem spec_l5Run.tab5 : rtab .any (opsOf Try.f36 5) = spec_l5Run.T5 := by kernel_rfl
theorem spec_l5Run.bits5 : waitsOk spec_l5Run.T5.2 spec_l5Run.B5 = true := by kernel_rfl
def spec_l5Run.T8 : Bool × List (List Nat × List Nat) := (true, [([], []), ([], []), ([], []), ([1, 2], [1, 2]), ([3], [3]), ([], []), ([5], [5]), ([4, 6], [4, 6]), ([7], [7]), ([0, 8, 6], [0, 8]), ([9, 9, 0, 1, 2, 3, 4, 5, 6, 7, 8, 9], [0, 1, 9])])
def spec_l5Run.B8 : List Nat := [0, 0, 0, 6, 14, 0, 32, 126, 254, 511, 1023]
theorem spec_l5Run.tab8 : rtab .any (opsOf Try.f36 8) = spec_l5Run.T8 := by kernel_rfl
theorem spec_l5Run.bits8 : waitsOk spec_l5Run.T8.2 spec_l5Run.B8 = true := by kernel_rfl
set_option maxHeartbeats 8000000 in
set_option maxRecDepth 100000 in
theorem spec_l5Run.calls (k : Nat) (a0_0 : Int) (a0_1 : Int) (a0_2 : Int) (a0_3 : Int) (a0_4 : Int) (a0_5 : Int) (A1 : Option Addr) (c1 : Nat) (l1 : List (S36)) (r1 : List Int) (r2 : Int) (r3 : Int) (r4 : Int) (r5 : Int) (r6 : Int) (r7 : Int) (r8 : Bool) (w : World) (hr1 : Kd.C k36 w A1 l1.length l1) (hc1 : l1.length ≤ c1) (h : spec_l5Run.f k a0_0 a0_1 a0_2 a0_3 a0_4 a0_5 l1 = some (r1, r2, r3, r4, r5, r6, r7, r8)) :
    Calls Try.prog 36 #[.agg #[.int .i64 a0_0, .int .i64 a0_1, .int .i64 a0_2, .int .i64 a0_3, .int .i64 a0_4, .int .i64 a0_5], .slice A1 l1.length c1] w fun e w' => ∃ v0_ : Value, e = .returned (.tuple #[v0_, .agg #[.int .i64 r2, .int .i64 r3, .int .i64 r4, .int .i64 r5, .int .i64 r6, .int .i64 r7], .bool r8]) ∧ Kd.R (Kd.int .i64) 3 w' w.heap.size (fun _ => True) v0_ r1 ∧ Below w.heap.size w w' := by
  have hu41 := Try.underlying41
  have hu36 := Try.underlying36
  have HR1 := Aside0.mk hr1
  have HC1 := Aside0.mk hc1
  clear hr1 hc1
  have HB := Aside0.mk (Below.refl w.heap.size w)
  have H : (spec_l5Run.l0 k l1 (([0] : List Int)) 0 a0_0 a0_1 a0_2 a0_3 a0_4 a0_5) = some (r1, r2, r3, r4, r5, r6, r7, r8) := h
  clear h
  obtain ⟨y114, hy114⟩ : ∃ y_ : List Int, y_ = (([0] : List Int)) := ⟨_, rfl⟩
  replace H : (spec_l5Run.l0 k l1 y114 0 a0_0 a0_1 a0_2 a0_3 a0_4 a0_5) = some (r1, r2, r3, r4, r5, r6, r7, r8) := by first | (rw [hy114]; with_reducible exact H) | (have H2_ := (Option.bind_some _ _).symm.trans H; rw [hy114]; with_reducible exact H2_) | (have H2_ := (Option.bind_some _ _).symm.trans H; with_reducible exact H2_) | with_reducible exact H | (rw [hy114]; exact H) | exact H
  have Ny114 := Aside0.mk hy114
  clear hy114
  have H' := Aside0.mk H
  clear H
  go_enter Try.func36, Try.ntmps36
  go_wp2_with (first | ((with_reducible refine gate_dst (N := 2) rfl ?_); refine box_event ?hg (N := 2) ?hd (cs := #[.int .i64 a0_0, .int .i64 a0_1, .int .i64 a0_2, .int .i64 a0_3, .int .i64 a0_4, .int .i64 a0_5]) (t := 41) ?hr ?_; (case hd => rfl); (case hg => rfl); (case hr => first | (go_simp; done) | (go_simp; rfl)); intro gb112 hg w3 hbox hb; have n0_ := Aside0.mk (below_step (by repeat (first | (with_reducible first | exact HB.out | apply below_alloc | apply pw_below_drewN | apply below_drew1) | exact HB.out)) hb); have n1_ := Aside0.mk (hbox); have n2_ := Aside0.mk ((by rw [hg]; exact (below_size (by repeat (first | (with_reducible first | exact HB.out | apply below_alloc | apply pw_below_drewN | apply below_drew1) | exact HB.out))) : w.heap.size ≤ gb112)); have n3_ := Aside0.mk ((by rw [hg]; exact (below_size (by repeat (first | (with_reducible first | exact HB.out | apply below_alloc | apply pw_below_drewN | apply below_drew1) | exact HB.out))) : w.heap.size ≤ gb112)); clear HB; have HB := n0_; have BK112 := n1_; have GW112 := n2_; have GE112 := n3_; clear n0_ n1_ n2_ n3_; clear hb hbox hg) | ((with_reducible refine gate_dst (N := 5) rfl ?_); refine box_event ?hg (N := 5) ?hd (cs := #[.int .i64 0, .int .i64 0, .int .i64 0, .int .i64 0, .int .i64 0, .int .i64 0]) (t := 41) ?hr ?_; (case hd => rfl); (case hg => rfl); (case hr => first | (go_simp; done) | (go_simp; rfl)); intro gb113 hg w4 hbox hb; have n0_ := Aside0.mk (blk_below (g := gb112) (o := .cells #[.int .i64 a0_0, .int .i64 a0_1, .int .i64 a0_2, .int .i64 a0_3, .int .i64 a0_4, .int .i64 a0_5] 41 (0, 0)) (by (with_reducible repeat (first | refine blk_drewN ?_ _ | refine blk_drew ?_ | refine blk_alloc ?_ _)); exact BK112.out) hb); have n1_ := Aside0.mk (below_step (by repeat (first | (with_reducible first | exact HB.out | apply below_alloc | apply pw_below_drewN | apply below_drew1 | refine below_set ?_ GE112.out) | exact HB.out)) hb); have n2_ := Aside0.mk (hbox); have n3_ := Aside0.mk ((by rw [hg]; exact (below_size (by repeat (first | (with_reducible first | exact HB.out | apply below_alloc | apply pw_below_drewN | apply below_drew1 | refine below_set ?_ GE112.out) | exact HB.out))) : w.heap.size ≤ gb113)); have n4_ := Aside0.mk ((by rw [hg]; exact (below_size (by repeat (first | (with_reducible first | exact HB.out | apply below_alloc | apply pw_below_drewN | apply below_drew1 | refine below_set ?_ GE112.out) | exact HB.out))) : w.heap.size ≤ gb113)); have n5_ := Aside0.mk ((by rw [hg]; exact Nat.ne_of_lt (blk_lt (g := gb112) (o := .cells #[.int .i64 a0_0, .int .i64 a0_1, .int .i64 a0_2, .int .i64 a0_3, .int .i64 a0_4, .int .i64 a0_5] 41 (0, 0)) (by (with_reducible repeat (first | refine blk_drewN ?_ _ | refine blk_drew ?_ | refine blk_alloc ?_ _)); exact BK112.out)) : gb112 ≠ gb113)); have n6_ := Aside0.mk ((by rw [hg]; exact Nat.ne_of_gt (blk_lt (g := gb112) (o := .cells #[.int .i64 a0_0, .int .i64 a0_1, .int .i64 a0_2, .int .i64 a0_3, .int .i64 a0_4, .int .i64 a0_5] 41 (0, 0)) (by (with_reducible repeat (first | refine blk_drewN ?_ _ | refine blk_drew ?_ | refine blk_alloc ?_ _)); exact BK112.out)) : gb113 ≠ gb112)); clear BK112; clear HB; have BK112 := n0_; have HB := n1_; have BK113 := n2_; have GW113 := n3_; have GE113 := n4_; have NB112_113 := n5_; have NB113_112 := n6_; clear n0_ n1_ n2_ n3_ n4_ n5_ n6_; clear hb hbox hg) | ((with_reducible refine gate_dst (N := 11) rfl ?_); refine Kd.R_lit (Kd.int .i64) _ 3 ?hg (N := 11) ?hd (xs := ([0] : List Int)) (inner := [.int .i64 0]) (ok := fun _ => True) (okp := fun _ => True) ?hr ?hp (fun _ hk => hk) trivial (Below.refl _ _) (Nat.le_refl _) (by simp) ?_; (case hd => rfl); (case hg => rfl); (case hr => first | (go_simp; done) | (go_simp; rfl)); (case hp => exact (Reps.one (show Kd.M (Kd.int .i64) _ _ _ 0 [.int .i64 0] from rfl) (Reps.none _ _))); intro v115 w5 ho6 hb hg_ hnew_; clear hg_ hnew_; (first | rw [← Ny114.out] at ho6 | (simp only [Int.reduceToNat] at ho6; rw [← Ny114.out] at ho6)); have n0_ := Aside0.mk (Kd.R_lower ho6 (below_size (by repeat (first | (with_reducible first | exact HB.out | apply below_alloc | apply pw_below_drewN | apply below_drew1 | refine below_set ?_ GE112.out | refine below_set ?_ GE113.out) | exact HB.out)))); have n1_ := Aside0.mk (blk_below (g := gb112) (o := .cells #[.int .i64 a0_0, .int .i64 a0_1, .int .i64 a0_2, .int .i64 a0_3, .int .i64 a0_4, .int .i64 a0_5] 41 (0, 0)) (by (with_reducible repeat (first | refine blk_drewN ?_ _ | refine blk_drew ?_ | refine blk_alloc ?_ _)); exact BK112.out) hb); have n2_ := Aside0.mk (blk_below (g := gb113) (o := .cells #[.int .i64 0, .int .i64 0, .int .i64 0, .int .i64 0, .int .i64 0, .int .i64 0] 41 (0, 0)) (by (with_reducible repeat (first | refine blk_drewN ?_ _ | refine blk_drew ?_ | refine blk_alloc ?_ _)); exact BK113.out) hb); have n3_ := Aside0.mk (below_step (by repeat (first | (with_reducible first | exact HB.out | apply below_alloc | apply pw_below_drewN | apply below_drew1 | refine below_set ?_ GE112.out | refine below_set ?_ GE113.out) | exact HB.out)) hb); clear BK112; clear BK113; clear HB; have HO116 := n0_; have BK112 := n1_; have BK113 := n2_; have HB := n3_; clear n0_ n1_ n2_ n3_; clear hb ho6))
  go_loopg [7, 8] k (fun kq v7 v8 w' => ∃ (x7_1 : List Int) (x8_1 : Int) (x113000_1 : Int) (x113001_1 : Int) (x113002_1 : Int) (x113003_1 : Int) (x113004_1 : Int) (x113005_1 : Int) (x114000_1 : Int) (x114001_1 : Int) (x114002_1 : Int) (x114003_1 : Int) (x114004_1 : Int) (x114005_1 : Int), v8 = .int .i64 x8_1 ∧ Aside0 (spec_l5Run.l0 kq l1 x7_1 x8_1 x113000_1 x113001_1 x113002_1 x113003_1 x113004_1 x113005_1 = some (r1, r2, r3, r4, r5, r6, r7, r8)) ∧ Aside0 (kq ≤ k) ∧ Aside0 (Kd.R (Kd.int .i64) 3 w' w.heap.size (fun _ => True) v7 x7_1) ∧ Aside0 (w'.heap[gb112]? = some (.cells #[.int .i64 x113000_1, .int .i64 x113001_1, .int .i64 x113002_1, .int .i64 x113003_1, .int .i64 x113004_1, .int .i64 x113005_1] 41 (0, 0))) ∧ Aside0 (w'.heap[gb113]? = some (.cells #[.int .i64 x114000_1, .int .i64 x114001_1, .int .i64 x114002_1, .int .i64 x114003_1, .int .i64 x114004_1, .int .i64 x114005_1] 41 (0, 0))) ∧ Aside0 (Below w.heap.size w w'))
  case atStart => exact ⟨(y114), (0), (a0_0), (a0_1), (a0_2), (a0_3), (a0_4), (a0_5), (0), (0), (0), (0), (0), (0), (by first | rfl | (simp; done) | (simp [*]; done)), H', ⟨Nat.le_refl _⟩, ⟨by (with_reducible repeat (first | apply Kd.R_alloc | apply Kd.R_drewN | apply Kd.R_drew)); exact HO116.out⟩, ⟨by (with_reducible repeat (first | refine blk_drewN ?_ _ | refine blk_drew ?_ | refine blk_alloc ?_ _)); exact BK112.out⟩, ⟨by (with_reducible repeat (first | refine blk_drewN ?_ _ | refine blk_drew ?_ | refine blk_alloc ?_ _)); exact BK113.out⟩, ⟨by repeat (first | (with_reducible first | exact HB.out | apply below_alloc | apply pw_below_drewN | apply below_drew1 | refine below_set ?_ GE112.out | refine below_set ?_ GE113.out) | exact HB.out)⟩⟩
  case round =>
    clear H'
    try clear c1
    try clear p2
    try clear c3
    obtain ⟨x7_1, x8_1, x113000_1, x113001_1, x113002_1, x113003_1, x113004_1, x113005_1, x114000_1, x114001_1, x114002_1, x114003_1, x114004_1, x114005_1, rfl, HA, HK1, HO_7, BK112, BK113, HB⟩ := hrel
    cases gk with
    | zero => exact absurd HA.out (by simp [spec_l5Run.l0])
    | succ k1 =>
      have H := HA.out
      clear HA
      simp only [spec_l5Run.l0] at H
      by_cases c7 : x8_1 < (l1.length : Int)
      · rw [if_pos c7] at H
        have c7b0 : decide (x8_1 < (l1.length : Int)) = true := decide_eq_true c7
        clear c7
        by_cases c8 : 0 ≤ x8_1
        · rw [if_pos c8] at H
          have c8b0 : decide (0 ≤ x8_1) = true := decide_eq_true c8
          clear c8
          replace H := Option.bind_eq_some_iff.mp H
          obtain ⟨⟨t118, t119, t120, t121, t122, t123, t124⟩, A90, H⟩ := H
          replace H : (if t124 = true then ((xL5Next.f t118 t119 t120 t121 t122 t123).bind fun t126 => (spec_l5Run.j1 k1 l1 x7_1 x8_1 (t126 == 0) t118 t119 t120 t121 t122 t123)) else (spec_l5Run.j1 k1 l1 x7_1 x8_1 true t118 t119 t120 t121 t122 t123)) = some (r1, r2, r3, r4, r5, r6, r7, r8) := H
          have A9 := Aside0.mk A90
          clear A90
          have HC10 := Aside0.mk H
          clear H
          try go_wp2
          have n0_ := Aside0.mk (Kd.R_drew HO_7.out)
          have n1_ := Aside0.mk (blk_drew BK112.out)
          have n2_ := Aside0.mk (blk_drew BK113.out)
          have n3_ := Aside0.mk (below_drew1 HB.out)
          clear HO_7
          clear BK112
          clear BK113
          clear HB
          have HO_7 := n0_
          have BK112 := n1_
          have BK113 := n2_
          have HB := n3_
          clear n0_ n1_ n2_ n3_
          have p117 : 0 ≤ (x8_1 : Int) := of_decide_eq_true (by first | (with_reducible assumption) | assumption)
          have q117 : x8_1 < (l1.length : Int) := of_decide_eq_true (by first | (with_reducible assumption) | assumption)
          obtain ⟨ad117, e117, hx117_0, hx117_1, hx117_2⟩ := at_T36 HR1.out x8_1 p117 q117
          have hw117_2 := hx117_2
          have hw117_1 := hx117_1
          have hw117_0 := hx117_0
          cases e117
          replace hx117_0 := (HB.out.cell (World.block_lt_of_cell? w _ hx117_0)).trans hx117_0
          replace hx117_1 := (HB.out.cell (World.block_lt_of_cell? w _ hx117_1)).trans hx117_1
          replace hx117_2 := (HB.out.cell (World.block_lt_of_cell? w _ hx117_2)).trans hx117_2
          replace p117 := eq_true p117
          replace q117 := eq_true q117
          refine start_ (n := 12) (S := fun w' => True) (ds := []) #[false, false, false, false, false, false, false, false, false, false, false, false] (by kernel_rfl) rfl rfl trivial (fun hHeld => ?_); refine with_tabW spec_l5Run.tab5 spec_l5Run.bits5 (fun HT_ HW_ => ?_)
          generalize wr.drew = w11 at HO_7 BK112 BK113 HB hx117_0 hx117_1 hx117_2 hHeld ⊢
          refine pure_ (i := 1) (N := some 20) (v := ?_) (a' := ?_) #[false, true, false, false, false, false, false, false, false, false, false, false] rfl rfl (any_of HT_.out (by kernel_rfl)) (fun _ _ _ h => h) (Or.inl ⟨by rfl, ?_⟩) ?_ ?_
          rotate_left
          · intro w'
            go_simp
            with_reducible rfl
          rotate_left
          · simp only [Act.put, List.setIfInBounds_toArray, List.set_cons_zero, List.set_cons_succ, i64_w, i32_w]
            rfl
          refine pure_ (i := 2) (N := some 21) (v := ?_) (a' := ?_) #[false, true, true, false, false, false, false, false, false, false, false, false] rfl rfl (any_of HT_.out (by kernel_rfl)) (fun _ _ _ h => h) (Or.inl ⟨by rfl, ?_⟩) ?_ ?_
          rotate_left
          · intro w'
            go_simp
            with_reducible rfl
          rotate_left
          · simp only [Act.put, List.setIfInBounds_toArray, List.set_cons_zero, List.set_cons_succ, i64_w, i32_w]
            rfl
          refine inv_at [0, 3, 4, 5, 6, 7, 8, 9, 10, 11] (fun a0_ b a w' => ∃ (gb125 : Nat) (m9_ : Value), a = putSel a0_ b [(0, 19, .agg #[.int .i64 x113000_1, .int .i64 x113001_1, .int .i64 x113002_1, .int .i64 x113003_1, .int .i64 x113004_1, .int .i64 x113005_1]), (3, 22, .pointer (some (ad117.add ((x8_1).toNat * 3)))), (4, 23, .agg #[.int .i64 ((rd_T36 l1 x8_1).f0), .int .i64 ((rd_T36 l1 x8_1).f1), .int .i64 ((rd_T36 l1 x8_1).f2)]), (5, 24, .tuple #[.agg #[.int .i64 t118, .int .i64 t119, .int .i64 t120, .int .i64 t121, .int .i64 t122, .int .i64 t123], .bool t124]), (6, 18, .tuple #[.agg #[.int .i64 t118, .int .i64 t119, .int .i64 t120, .int .i64 t121, .int .i64 t122, .int .i64 t123], .bool t124]), (7, 25, .agg #[.int .i64 t118, .int .i64 t119, .int .i64 t120, .int .i64 t121, .int .i64 t122, .int .i64 t123]), (8, 26, .bool t124), (9, 9, m9_), (11, 10, .bool t124)] ∧ (Kd.R (Kd.int .i64) 3 w' w.heap.size (fun _ => True) u7 x7_1) ∧ (w'.heap[gb112]? = some (.cells #[.int .i64 x113000_1, .int .i64 x113001_1, .int .i64 x113002_1, .int .i64 x113003_1, .int .i64 x113004_1, .int .i64 x113005_1] 41 (0, 0))) ∧ (w'.heap[gb113]? = some (.cells #[.int .i64 x114000_1, .int .i64 x114001_1, .int .i64 x114002_1, .int .i64 x114003_1, .int .i64 x114004_1, .int .i64 x114005_1] 41 (0, 0))) ∧ (Below w.heap.size w w') ∧ (b 9 = true → b 10 = false → w'.heap[gb125]? = some (.cells #[.int .i64 0, .int .i64 0, .int .i64 0, .int .i64 0, .int .i64 0, .int .i64 0] 41 (0, 0))) ∧ (b 9 = true → w.heap.size ≤ gb125) ∧ (b 9 = true → w.heap.size ≤ gb125) ∧ (b 9 = true → gb112 ≠ gb125) ∧ (b 9 = true → gb125 ≠ gb112) ∧ (b 9 = true → gb113 ≠ gb125) ∧ (b 9 = true → gb125 ≠ gb113) ∧ (b 10 = true → w'.heap[gb125]? = some (.cells #[.int .i64 t118, .int .i64 t119, .int .i64 t120, .int .i64 t121, .int .i64 t122, .int .i64 t123] 41 (0, 0))) ∧ (b 9 = true → (m9_ : Value) = .pointer (some ⟨gb125, 0, none⟩))) HT_.out HW_.out (by kernel_rfl) (by kernel_rfl) ?_ ?_ ?_
          · exact ⟨0, .bool false, by simp only [putSel, Bool.false_eq_true, if_false], HO_7.out, BK112.out, BK113.out, HB.out, fun h_ => absurd h_ (by decide), fun h_ => absurd h_ (by decide), fun h_ => absurd h_ (by decide), fun h_ => absurd h_ (by decide), fun h_ => absurd h_ (by decide), fun h_ => absurd h_ (by decide), fun h_ => absurd h_ (by decide), fun h_ => absurd h_ (by decide), fun h_ => absurd h_ (by decide)⟩
          · skip
            clear BK112 BK113 HB HO_7
            refine steps_cons ?_ ?_
            · rintro b a w' ⟨gb125, m9_, ha, Q_HO_7, Q_BK112, Q_BK113, Q_HB, Q_BK125, Q_GW125, Q_GE125, Q_NB112_125, Q_NB125_112, Q_NB113_125, Q_NB125_113, Q_BK125_e10, Q_X9_⟩ hb_ hon hoff
              refine ⟨_, rfl, fun K hK => ?_⟩
              have e2 : a.tmps[2]? = some (.pointer (some ⟨gb112, 0, none⟩)) := by rw [ha]; exact (putSel_off rfl).trans rfl
              replace ha := Aside0.mk ha
              have HO_7 := Aside0.mk Q_HO_7
              have BK112 := Aside0.mk Q_BK112
              have BK113 := Aside0.mk Q_BK113
              have HB := Aside0.mk Q_HB
              have hc0_ : w'.cell? ⟨gb112, 0, none⟩ = some (.int .i64 x113000_1) := (blk_cell BK112.out 0).trans rfl
              have hc1_ : w'.cell? ⟨gb112, 1, none⟩ = some (.int .i64 x113001_1) := (blk_cell BK112.out 1).trans rfl
              have hc2_ : w'.cell? ⟨gb112, 2, none⟩ = some (.int .i64 x113002_1) := (blk_cell BK112.out 2).trans rfl
              have hc3_ : w'.cell? ⟨gb112, 3, none⟩ = some (.int .i64 x113003_1) := (blk_cell BK112.out 3).trans rfl
              have hc4_ : w'.cell? ⟨gb112, 4, none⟩ = some (.int .i64 x113004_1) := (blk_cell BK112.out 4).trans rfl
              have hc5_ : w'.cell? ⟨gb112, 5, none⟩ = some (.int .i64 x113005_1) := (blk_cell BK112.out 5).trans rfl
              refine value_ (w1 := w') (v := .agg #[.int .i64 x113000_1, .int .i64 x113001_1, .int .i64 x113002_1, .int .i64 x113003_1, .int .i64 x113004_1, .int .i64 x113005_1]) (by rfl) rfl ?_ ?_
              · go_simp
                (try simp only [i64_w])
                try rfl
              refine hK.out _ _ ⟨gb125, m9_, (by rw [ha.out]; exact putSel_upk 0 hb_ rfl rfl rfl), Q_HO_7, Q_BK112, Q_BK113, Q_HB, Q_BK125, Q_GW125, Q_GE125, Q_NB112_125, Q_NB125_112, Q_NB113_125, Q_NB125_113, fun h0_ => absurd ((hoff 10 (by kernel_rfl)).symm.trans h0_) (by decide), Q_X9_⟩
            refine steps_cons ?_ ?_
            · rintro b a w' ⟨gb125, m9_, ha, Q_HO_7, Q_BK112, Q_BK113, Q_HB, Q_BK125, Q_GW125, Q_GE125, Q_NB112_125, Q_NB125_112, Q_NB113_125, Q_NB125_113, Q_BK125_e10, Q_X9_⟩ hb_ hon hoff
              refine ⟨_, rfl, fun K hK => ?_⟩
              have e20 : a.tmps[20]? = some (.slice (some ad117) l1.length c1) := by rw [ha]; exact (putSel_off rfl).trans rfl
              have e21 : a.tmps[21]? = some (.int .i64 x8_1) := by rw [ha]; exact (putSel_off rfl).trans rfl
              replace ha := Aside0.mk ha
              have HO_7 := Aside0.mk Q_HO_7
              have BK112 := Aside0.mk Q_BK112
              have BK113 := Aside0.mk Q_BK113
              have HB := Aside0.mk Q_HB
              have hs0_ : w'.cell? (ad117.add ((x8_1).toNat * 3)) = some (.int .i64 ((rd_T36 l1 x8_1).f0)) := ((HB.out.cell (World.block_lt_of_cell? w _ hw117_0)).trans hw117_0)
              have hs1_ : w'.cell? ⟨(ad117.add ((x8_1).toNat * 3)).block, (ad117.add ((x8_1).toNat * 3)).off + 1, none⟩ = some (.int .i64 ((rd_T36 l1 x8_1).f1)) := ((HB.out.cell (World.block_lt_of_cell? w _ hw117_1)).trans hw117_1)
              have hs2_ : w'.cell? ⟨(ad117.add ((x8_1).toNat * 3)).block, (ad117.add ((x8_1).toNat * 3)).off + 2, none⟩ = some (.int .i64 ((rd_T36 l1 x8_1).f2)) := ((HB.out.cell (World.block_lt_of_cell? w _ hw117_2)).trans hw117_2)
              refine value_ (w1 := w') (v := .pointer (some (ad117.add ((x8_1).toNat * 3)))) (by rfl) rfl ?_ ?_
              · go_simp
                (try simp only [i64_w])
                try rfl
              refine hK.out _ _ ⟨gb125, m9_, (by rw [ha.out]; exact putSel_upk 1 hb_ rfl rfl rfl), Q_HO_7, Q_BK112, Q_BK113, Q_HB, Q_BK125, Q_GW125, Q_GE125, Q_NB112_125, Q_NB125_112, Q_NB113_125, Q_NB125_113, fun h0_ => absurd ((hoff 10 (by kernel_rfl)).symm.trans h0_) (by decide), Q_X9_⟩
            refine steps_cons ?_ ?_
            · rintro b a w' ⟨gb125, m9_, ha, Q_HO_7, Q_BK112, Q_BK113, Q_HB, Q_BK125, Q_GW125, Q_GE125, Q_NB112_125, Q_NB125_112, Q_NB113_125, Q_NB125_113, Q_BK125_e10, Q_X9_⟩ hb_ hon hoff
              refine ⟨_, rfl, fun K hK => ?_⟩
              have e22 : a.tmps[22]? = some (.pointer (some (ad117.add ((x8_1).toNat * 3)))) := by rw [ha]; exact putSel_on (e := (3, 22, .pointer (some (ad117.add ((x8_1).toNat * 3))))) 1 rfl rfl (hon 3 (by kernel_rfl)) rfl
              replace ha := Aside0.mk ha
              have HO_7 := Aside0.mk Q_HO_7
              have BK112 := Aside0.mk Q_BK112
              have BK113 := Aside0.mk Q_BK113
              have HB := Aside0.mk Q_HB
              have hs0_ : w'.cell? (ad117.add ((x8_1).toNat * 3)) = some (.int .i64 ((rd_T36 l1 x8_1).f0)) := ((HB.out.cell (World.block_lt_of_cell? w _ hw117_0)).trans hw117_0)
              have hs1_ : w'.cell? ⟨(ad117.add ((x8_1).toNat * 3)).block, (ad117.add ((x8_1).toNat * 3)).off + 1, none⟩ = some (.int .i64 ((rd_T36 l1 x8_1).f1)) := ((HB.out.cell (World.block_lt_of_cell? w _ hw117_1)).trans hw117_1)
              have hs2_ : w'.cell? ⟨(ad117.add ((x8_1).toNat * 3)).block, (ad117.add ((x8_1).toNat * 3)).off + 2, none⟩ = some (.int .i64 ((rd_T36 l1 x8_1).f2)) := ((HB.out.cell (World.block_lt_of_cell? w _ hw117_2)).trans hw117_2)
              refine value_ (w1 := w') (v := .agg #[.int .i64 ((rd_T36 l1 x8_1).f0), .int .i64 ((rd_T36 l1 x8_1).f1), .int .i64 ((rd_T36 l1 x8_1).f2)]) (by rfl) rfl ?_ ?_
              · go_simp
                (try simp only [i64_w])
                try rfl
              refine hK.out _ _ ⟨gb125, m9_, (by rw [ha.out]; exact putSel_upk 2 hb_ rfl rfl rfl), Q_HO_7, Q_BK112, Q_BK113, Q_HB, Q_BK125, Q_GW125, Q_GE125, Q_NB112_125, Q_NB125_112, Q_NB113_125, Q_NB125_113, fun h0_ => absurd ((hoff 10 (by kernel_rfl)).symm.trans h0_) (by decide), Q_X9_⟩
            refine steps_cons ?_ ?_
            · rintro b a w' ⟨gb125, m9_, ha, Q_HO_7, Q_BK112, Q_BK113, Q_HB, Q_BK125, Q_GW125, Q_GE125, Q_NB112_125, Q_NB125_112, Q_NB113_125, Q_NB125_113, Q_BK125_e10, Q_X9_⟩ hb_ hon hoff
              refine ⟨_, rfl, fun K hK => ?_⟩
              have e19 : a.tmps[19]? = some (.agg #[.int .i64 x113000_1, .int .i64 x113001_1, .int .i64 x113002_1, .int .i64 x113003_1, .int .i64 x113004_1, .int .i64 x113005_1]) := by rw [ha]; exact putSel_on (e := (0, 19, .agg #[.int .i64 x113000_1, .int .i64 x113001_1, .int .i64 x113002_1, .int .i64 x113003_1, .int .i64 x113004_1, .int .i64 x113005_1])) 0 rfl rfl (hon 0 (by kernel_rfl)) rfl
              have e23 : a.tmps[23]? = some (.agg #[.int .i64 ((rd_T36 l1 x8_1).f0), .int .i64 ((rd_T36 l1 x8_1).f1), .int .i64 ((rd_T36 l1 x8_1).f2)]) := by rw [ha]; exact putSel_on (e := (4, 23, .agg #[.int .i64 ((rd_T36 l1 x8_1).f0), .int .i64 ((rd_T36 l1 x8_1).f1), .int .i64 ((rd_T36 l1 x8_1).f2)])) 2 rfl rfl (hon 4 (by kernel_rfl)) rfl
              replace ha := Aside0.mk ha
              have HO_7 := Aside0.mk Q_HO_7
              have BK112 := Aside0.mk Q_BK112
              have BK113 := Aside0.mk Q_BK113
              have HB := Aside0.mk Q_HB
              refine goes_ Try.func58 (by kernel_rfl) rfl #[.agg #[.int .i64 x113000_1, .int .i64 x113001_1, .int .i64 x113002_1, .int .i64 x113003_1, .int .i64 x113004_1, .int .i64 x113005_1], .agg #[.int .i64 ((rd_T36 l1 x8_1).f0), .int .i64 ((rd_T36 l1 x8_1).f1), .int .i64 ((rd_T36 l1 x8_1).f2)]] (by rfl) rfl rfl (by first | (simp only [List.map_toArray, List.map_cons, List.map_nil, Act.eval, Array.getD_eq_getD_getElem?, Option.getD_some, e19, e23]; done) | (simp only [List.map_toArray, List.map_cons, List.map_nil, Act.eval, Array.getD_eq_getD_getElem?, Option.getD_some, e19, e23]; rfl)) ?_
              with_reducible refine (xL5Light.calls x113000_1 x113001_1 x113002_1 x113003_1 x113004_1 x113005_1 ((rd_T36 l1 x8_1).f0) ((rd_T36 l1 x8_1).f1) ((rd_T36 l1 x8_1).f2) t118 t119 t120 t121 t122 t123 t124 _ A9.out).mono ?_
              rintro e w12 ⟨rfl, hb⟩
              refine ⟨_, rfl, ?_⟩
              have n0_ := Aside0.mk (Kd.R_below (by (with_reducible repeat (first | apply Kd.R_alloc | apply Kd.R_drewN | apply Kd.R_drew)); exact HO_7.out) hb)
              have n1_ := Aside0.mk (blk_below (g := gb112) (o := .cells #[.int .i64 x113000_1, .int .i64 x113001_1, .int .i64 x113002_1, .int .i64 x113003_1, .int .i64 x113004_1, .int .i64 x113005_1] 41 (0, 0)) (by (with_reducible repeat (first | refine blk_drewN ?_ _ | refine blk_drew ?_ | refine blk_alloc ?_ _)); exact BK112.out) hb)
              have n2_ := Aside0.mk (blk_below (g := gb113) (o := .cells #[.int .i64 x114000_1, .int .i64 x114001_1, .int .i64 x114002_1, .int .i64 x114003_1, .int .i64 x114004_1, .int .i64 x114005_1] 41 (0, 0)) (by (with_reducible repeat (first | refine blk_drewN ?_ _ | refine blk_drew ?_ | refine blk_alloc ?_ _)); exact BK113.out) hb)
              have n3_ := Aside0.mk (below_step (by repeat (first | (with_reducible first | exact HB.out | apply below_alloc | apply pw_below_drewN | apply below_drew1 | refine below_set ?_ GE112.out | refine below_set ?_ GE113.out) | exact HB.out)) hb)
              have z_BK125 := fun (h0_ : b 9 = true) (h1_ : b 10 = false) => (show w12.heap[gb125]? = some (.cells #[.int .i64 0, .int .i64 0, .int .i64 0, .int .i64 0, .int .i64 0, .int .i64 0] 41 (0, 0)) from by first | exact (blk_below (g := gb125) (o := .cells #[.int .i64 0, .int .i64 0, .int .i64 0, .int .i64 0, .int .i64 0, .int .i64 0] 41 (0, 0)) (by (with_reducible repeat (first | refine blk_drewN ?_ _ | refine blk_drew ?_ | refine blk_alloc ?_ _)); exact (Q_BK125 h0_ h1_)) hb))
              clear HO_7
              clear BK112
              clear BK113
              clear HB
              have HO_7 := n0_
              have BK112 := n1_
              have BK113 := n2_
              have HB := n3_
              clear n0_ n1_ n2_ n3_
              (try clear hb)
              (try clear hb2)
              (try clear hk)
              (try clear hi)
              refine hK.out _ _ ⟨gb125, m9_, (by rw [ha.out]; exact putSel_upk 3 hb_ rfl rfl rfl), (by (with_reducible repeat (first | apply Kd.R_alloc | apply Kd.R_drewN | apply Kd.R_drew)); exact HO_7.out), (by (with_reducible repeat (first | refine blk_drewN ?_ _ | refine blk_drew ?_ | refine blk_alloc ?_ _)); exact BK112.out), (by (with_reducible repeat (first | refine blk_drewN ?_ _ | refine blk_drew ?_ | refine blk_alloc ?_ _)); exact BK113.out), (by repeat (first | (with_reducible first | exact HB.out | apply below_alloc | apply pw_below_drewN | apply below_drew1 | refine below_set ?_ GE112.out | refine below_set ?_ GE113.out) | exact HB.out)), z_BK125, Q_GW125, Q_GE125, Q_NB112_125, Q_NB125_112, Q_NB113_125, Q_NB125_113, fun h0_ => absurd ((hoff 10 (by kernel_rfl)).symm.trans h0_) (by decide), Q_X9_⟩
            refine steps_cons ?_ ?_
            · rintro b a w' ⟨gb125, m9_, ha, Q_HO_7, Q_BK112, Q_BK113, Q_HB, Q_BK125, Q_GW125, Q_GE125, Q_NB112_125, Q_NB125_112, Q_NB113_125, Q_NB125_113, Q_BK125_e10, Q_X9_⟩ hb_ hon hoff
              refine ⟨_, rfl, fun K hK => ?_⟩
              have e24 : a.tmps[24]? = some (.tuple #[.agg #[.int .i64 t118, .int .i64 t119, .int .i64 t120, .int .i64 t121, .int .i64 t122, .int .i64 t123], .bool t124]) := by rw [ha]; exact putSel_on (e := (5, 24, .tuple #[.agg #[.int .i64 t118, .int .i64 t119, .int .i64 t120, .int .i64 t121, .int .i64 t122, .int .i64 t123], .bool t124])) 3 rfl rfl (hon 5 (by kernel_rfl)) rfl
              replace ha := Aside0.mk ha
              have HO_7 := Aside0.mk Q_HO_7
              have BK112 := Aside0.mk Q_BK112
              have BK113 := Aside0.mk Q_BK113
              have HB := Aside0.mk Q_HB
              refine value_ (w1 := w') (v := .tuple #[.agg #[.int .i64 t118, .int .i64 t119, .int .i64 t120, .int .i64 t121, .int .i64 t122, .int .i64 t123], .bool t124]) (by rfl) rfl ?_ ?_
              · go_simp
                (try simp only [i64_w])
                try rfl
              refine hK.out _ _ ⟨gb125, m9_, (by rw [ha.out]; exact putSel_upk 4 hb_ rfl rfl rfl), Q_HO_7, Q_BK112, Q_BK113, Q_HB, Q_BK125, Q_GW125, Q_GE125, Q_NB112_125, Q_NB125_112, Q_NB113_125, Q_NB125_113, fun h0_ => absurd ((hoff 10 (by kernel_rfl)).symm.trans h0_) (by decide), Q_X9_⟩
            refine steps_cons ?_ ?_
            · rintro b a w' ⟨gb125, m9_, ha, Q_HO_7, Q_BK112, Q_BK113, Q_HB, Q_BK125, Q_GW125, Q_GE125, Q_NB112_125, Q_NB125_112, Q_NB113_125, Q_NB125_113, Q_BK125_e10, Q_X9_⟩ hb_ hon hoff
              refine ⟨_, rfl, fun K hK => ?_⟩
              have e18 : a.tmps[18]? = some (.tuple #[.agg #[.int .i64 t118, .int .i64 t119, .int .i64 t120, .int .i64 t121, .int .i64 t122, .int .i64 t123], .bool t124]) := by rw [ha]; exact putSel_on (e := (6, 18, .tuple #[.agg #[.int .i64 t118, .int .i64 t119, .int .i64 t120, .int .i64 t121, .int .i64 t122, .int .i64 t123], .bool t124])) 4 rfl rfl (hon 6 (by kernel_rfl)) rfl
              replace ha := Aside0.mk ha
              have HO_7 := Aside0.mk Q_HO_7
              have BK112 := Aside0.mk Q_BK112
              have BK113 := Aside0.mk Q_BK113
              have HB := Aside0.mk Q_HB
              refine value_ (w1 := w') (v := .agg #[.int .i64 t118, .int .i64 t119, .int .i64 t120, .int .i64 t121, .int .i64 t122, .int .i64 t123]) (by rfl) rfl ?_ ?_
              · go_simp
                (try simp only [i64_w])
                try rfl
              refine hK.out _ _ ⟨gb125, m9_, (by rw [ha.out]; exact putSel_upk 5 hb_ rfl rfl rfl), Q_HO_7, Q_BK112, Q_BK113, Q_HB, Q_BK125, Q_GW125, Q_GE125, Q_NB112_125, Q_NB125_112, Q_NB113_125, Q_NB125_113, fun h0_ => absurd ((hoff 10 (by kernel_rfl)).symm.trans h0_) (by decide), Q_X9_⟩
            refine steps_cons ?_ ?_
            · rintro b a w' ⟨gb125, m9_, ha, Q_HO_7, Q_BK112, Q_BK113, Q_HB, Q_BK125, Q_GW125, Q_GE125, Q_NB112_125, Q_NB125_112, Q_NB113_125, Q_NB125_113, Q_BK125_e10, Q_X9_⟩ hb_ hon hoff
              refine ⟨_, rfl, fun K hK => ?_⟩
              have e18 : a.tmps[18]? = some (.tuple #[.agg #[.int .i64 t118, .int .i64 t119, .int .i64 t120, .int .i64 t121, .int .i64 t122, .int .i64 t123], .bool t124]) := by rw [ha]; exact putSel_on (e := (6, 18, .tuple #[.agg #[.int .i64 t118, .int .i64 t119, .int .i64 t120, .int .i64 t121, .int .i64 t122, .int .i64 t123], .bool t124])) 4 rfl rfl (hon 6 (by kernel_rfl)) rfl
              replace ha := Aside0.mk ha
              have HO_7 := Aside0.mk Q_HO_7
              have BK112 := Aside0.mk Q_BK112
              have BK113 := Aside0.mk Q_BK113
              have HB := Aside0.mk Q_HB
              refine value_ (w1 := w') (v := .bool t124) (by rfl) rfl ?_ ?_
              · go_simp
                (try simp only [i64_w])
                try rfl
              refine hK.out _ _ ⟨gb125, m9_, (by rw [ha.out]; exact putSel_upk 6 hb_ rfl rfl rfl), Q_HO_7, Q_BK112, Q_BK113, Q_HB, Q_BK125, Q_GW125, Q_GE125, Q_NB112_125, Q_NB125_112, Q_NB113_125, Q_NB125_113, Q_BK125_e10, Q_X9_⟩
            refine steps_cons ?_ ?_
            · rintro b a w' ⟨gb125, m9_, ha, Q_HO_7, Q_BK112, Q_BK113, Q_HB, Q_BK125, Q_GW125, Q_GE125, Q_NB112_125, Q_NB125_112, Q_NB113_125, Q_NB125_113, Q_BK125_e10, Q_X9_⟩ hb_ hon hoff
              refine ⟨_, rfl, fun K hK => ?_⟩
              replace ha := Aside0.mk ha
              have HO_7 := Aside0.mk Q_HO_7
              have BK112 := Aside0.mk Q_BK112
              have BK113 := Aside0.mk Q_BK113
              have HB := Aside0.mk Q_HB
              refine box_step ?hg (N := 9) ?hd (cs := #[.int .i64 0, .int .i64 0, .int .i64 0, .int .i64 0, .int .i64 0, .int .i64 0]) (t := 41) ?hr ?_; (case hd => rfl); (case hg => rfl); (case hr => first | (go_simp; done) | (go_simp; rfl))
              intro gb125 hg w12 hbox hb
              have n0_ := Aside0.mk (Kd.R_below (by (with_reducible repeat (first | apply Kd.R_alloc | apply Kd.R_drewN | apply Kd.R_drew)); exact HO_7.out) hb)
              have n1_ := Aside0.mk (blk_below (g := gb112) (o := .cells #[.int .i64 x113000_1, .int .i64 x113001_1, .int .i64 x113002_1, .int .i64 x113003_1, .int .i64 x113004_1, .int .i64 x113005_1] 41 (0, 0)) (by (with_reducible repeat (first | refine blk_drewN ?_ _ | refine blk_drew ?_ | refine blk_alloc ?_ _)); exact BK112.out) hb)
              have n2_ := Aside0.mk (blk_below (g := gb113) (o := .cells #[.int .i64 x114000_1, .int .i64 x114001_1, .int .i64 x114002_1, .int .i64 x114003_1, .int .i64 x114004_1, .int .i64 x114005_1] 41 (0, 0)) (by (with_reducible repeat (first | refine blk_drewN ?_ _ | refine blk_drew ?_ | refine blk_alloc ?_ _)); exact BK113.out) hb)
              have n3_ := Aside0.mk (below_step (by repeat (first | (with_reducible first | exact HB.out | apply below_alloc | apply pw_below_drewN | apply below_drew1 | refine below_set ?_ GE112.out | refine below_set ?_ GE113.out) | exact HB.out)) hb)
              have n4_ := Aside0.mk (hbox)
              have n5_ := Aside0.mk ((by rw [hg]; exact (below_size (by repeat (first | (with_reducible first | exact HB.out | apply below_alloc | apply pw_below_drewN | apply below_drew1 | refine below_set ?_ GE112.out | refine below_set ?_ GE113.out) | exact HB.out))) : w.heap.size ≤ gb125))
              have n6_ := Aside0.mk ((by rw [hg]; exact (below_size (by repeat (first | (with_reducible first | exact HB.out | apply below_alloc | apply pw_below_drewN | apply below_drew1 | refine below_set ?_ GE112.out | refine below_set ?_ GE113.out) | exact HB.out))) : w.heap.size ≤ gb125))
              have n7_ := Aside0.mk ((by rw [hg]; exact Nat.ne_of_lt (blk_lt (g := gb112) (o := .cells #[.int .i64 x113000_1, .int .i64 x113001_1, .int .i64 x113002_1, .int .i64 x113003_1, .int .i64 x113004_1, .int .i64 x113005_1] 41 (0, 0)) (by (with_reducible repeat (first | refine blk_drewN ?_ _ | refine blk_drew ?_ | refine blk_alloc ?_ _)); exact BK112.out)) : gb112 ≠ gb125))
              have n8_ := Aside0.mk ((by rw [hg]; exact Nat.ne_of_gt (blk_lt (g := gb112) (o := .cells #[.int .i64 x113000_1, .int .i64 x113001_1, .int .i64 x113002_1, .int .i64 x113003_1, .int .i64 x113004_1, .int .i64 x113005_1] 41 (0, 0)) (by (with_reducible repeat (first | refine blk_drewN ?_ _ | refine blk_drew ?_ | refine blk_alloc ?_ _)); exact BK112.out)) : gb125 ≠ gb112))
              have n9_ := Aside0.mk ((by rw [hg]; exact Nat.ne_of_lt (blk_lt (g := gb113) (o := .cells #[.int .i64 x114000_1, .int .i64 x114001_1, .int .i64 x114002_1, .int .i64 x114003_1, .int .i64 x114004_1, .int .i64 x114005_1] 41 (0, 0)) (by (with_reducible repeat (first | refine blk_drewN ?_ _ | refine blk_drew ?_ | refine blk_alloc ?_ _)); exact BK113.out)) : gb113 ≠ gb125))
              have n10_ := Aside0.mk ((by rw [hg]; exact Nat.ne_of_gt (blk_lt (g := gb113) (o := .cells #[.int .i64 x114000_1, .int .i64 x114001_1, .int .i64 x114002_1, .int .i64 x114003_1, .int .i64 x114004_1, .int .i64 x114005_1] 41 (0, 0)) (by (with_reducible repeat (first | refine blk_drewN ?_ _ | refine blk_drew ?_ | refine blk_alloc ?_ _)); exact BK113.out)) : gb125 ≠ gb113))
              clear HO_7
              clear BK112
              clear BK113
              clear HB
              have HO_7 := n0_
              have BK112 := n1_
              have BK113 := n2_
              have HB := n3_
              have BK125 := n4_
              have GW125 := n5_
              have GE125 := n6_
              have NB112_125 := n7_
              have NB125_112 := n8_
              have NB113_125 := n9_
              have NB125_113 := n10_
              clear n0_ n1_ n2_ n3_ n4_ n5_ n6_ n7_ n8_ n9_ n10_
              clear hb hbox hg
              refine hK.out _ _ ⟨gb125, (.pointer (some ⟨gb125, 0, none⟩)), (by rw [ha.out]; exact putSel_upk 7 hb_ rfl rfl rfl), (by (with_reducible repeat (first | apply Kd.R_alloc | apply Kd.R_drewN | apply Kd.R_drew)); exact HO_7.out), (by (with_reducible repeat (first | refine blk_drewN ?_ _ | refine blk_drew ?_ | refine blk_alloc ?_ _)); exact BK112.out), (by (with_reducible repeat (first | refine blk_drewN ?_ _ | refine blk_drew ?_ | refine blk_alloc ?_ _)); exact BK113.out), (by repeat (first | (with_reducible first | exact HB.out | apply below_alloc | apply pw_below_drewN | apply below_drew1 | refine below_set ?_ GE112.out | refine below_set ?_ GE113.out | refine below_set ?_ GE125.out) | exact HB.out)), fun _ _ => (by (with_reducible repeat (first | refine blk_drewN ?_ _ | refine blk_drew ?_ | refine blk_alloc ?_ _)); exact BK125.out), fun _ => GW125.out, fun _ => GE125.out, fun _ => NB112_125.out, fun _ => NB125_112.out, fun _ => NB113_125.out, fun _ => NB125_113.out, fun h0_ => absurd ((hoff 10 (by kernel_rfl)).symm.trans h0_) (by decide), fun _ => rfl⟩
            refine steps_cons ?_ ?_
            · rintro b a w' ⟨gb125, m9_, ha, Q_HO_7, Q_BK112, Q_BK113, Q_HB, Q_BK125, Q_GW125, Q_GE125, Q_NB112_125, Q_NB125_112, Q_NB113_125, Q_NB125_113, Q_BK125_e10, Q_X9_⟩ hb_ hon hoff
              refine ⟨_, rfl, fun K hK => ?_⟩
              have e9 : a.tmps[9]? = some (m9_) := by rw [ha]; exact putSel_on (e := (9, 9, m9_)) 7 rfl rfl (hon 9 (by kernel_rfl)) rfl
              rw [Q_X9_ (hon 9 (by kernel_rfl))] at e9
              have e25 : a.tmps[25]? = some (.agg #[.int .i64 t118, .int .i64 t119, .int .i64 t120, .int .i64 t121, .int .i64 t122, .int .i64 t123]) := by rw [ha]; exact putSel_on (e := (7, 25, .agg #[.int .i64 t118, .int .i64 t119, .int .i64 t120, .int .i64 t121, .int .i64 t122, .int .i64 t123])) 5 rfl rfl (hon 7 (by kernel_rfl)) rfl
              replace ha := Aside0.mk ha
              have HO_7 := Aside0.mk Q_HO_7
              have BK112 := Aside0.mk Q_BK112
              have BK113 := Aside0.mk Q_BK113
              have HB := Aside0.mk Q_HB
              have BK125 := Aside0.mk (Q_BK125 (hon 9 (by kernel_rfl)) hb_)
              have GW125 := Aside0.mk (Q_GW125 (hon 9 (by kernel_rfl)))
              have GE125 := Aside0.mk (Q_GE125 (hon 9 (by kernel_rfl)))
              have NB112_125 := Aside0.mk (Q_NB112_125 (hon 9 (by kernel_rfl)))
              have NB125_112 := Aside0.mk (Q_NB125_112 (hon 9 (by kernel_rfl)))
              have NB113_125 := Aside0.mk (Q_NB113_125 (hon 9 (by kernel_rfl)))
              have NB125_113 := Aside0.mk (Q_NB125_113 (hon 9 (by kernel_rfl)))
              have hs15 : w'.cell? ⟨gb125, 0, none⟩ = some (.int .i64 0) := (blk_cell BK125.out 0).trans rfl
              have hfs15 := blk_frozen BK125.out 0
              have hns15_0 := NB112_125.out
              have hns15_1 := NB113_125.out
              have hms15_0 := NB125_112.out
              have hms15_1 := NB125_113.out
              have hs16 : w'.cell? ⟨gb125, 1, none⟩ = some (.int .i64 0) := (blk_cell BK125.out 1).trans rfl
              have hfs16 := blk_frozen BK125.out 1
              have hns16_0 := NB112_125.out
              have hns16_1 := NB113_125.out
              have hms16_0 := NB125_112.out
              have hms16_1 := NB125_113.out
              have hs17 : w'.cell? ⟨gb125, 2, none⟩ = some (.int .i64 0) := (blk_cell BK125.out 2).trans rfl
              have hfs17 := blk_frozen BK125.out 2
              have hns17_0 := NB112_125.out
              have hns17_1 := NB113_125.out
              have hms17_0 := NB125_112.out
              have hms17_1 := NB125_113.out
              have hs18 : w'.cell? ⟨gb125, 3, none⟩ = some (.int .i64 0) := (blk_cell BK125.out 3).trans rfl
              have hfs18 := blk_frozen BK125.out 3
              have hns18_0 := NB112_125.out
              have hns18_1 := NB113_125.out
              have hms18_0 := NB125_112.out
              have hms18_1 := NB125_113.out
              have hs19 : w'.cell? ⟨gb125, 4, none⟩ = some (.int .i64 0) := (blk_cell BK125.out 4).trans rfl
              have hfs19 := blk_frozen BK125.out 4
              have hns19_0 := NB112_125.out
              have hns19_1 := NB113_125.out
              have hms19_0 := NB125_112.out
              have hms19_1 := NB125_113.out
              have hs20 : w'.cell? ⟨gb125, 5, none⟩ = some (.int .i64 0) := (blk_cell BK125.out 5).trans rfl
              have hfs20 := blk_frozen BK125.out 5
              have hns20_0 := NB112_125.out
              have hns20_1 := NB113_125.out
              have hms20_0 := NB125_112.out
              have hms20_1 := NB125_113.out
              refine skip_ (w1 := ?_) (by rfl) rfl ?_ ?_
              rotate_left
              · go_simp
                rfl
              refine hK.out _ _ ⟨gb125, m9_, (by rw [ha.out]; exact putSel_none (v := undef) rfl), (by (with_reducible repeat (first | apply Kd.R_alloc | apply Kd.R_drewN | apply Kd.R_drew)); exact Kd.R_mono (Kd.R_far (p := ⟨gb125, 5, none⟩) (Kd.R_far (p := ⟨gb125, 4, none⟩) (Kd.R_far (p := ⟨gb125, 3, none⟩) (Kd.R_far (p := ⟨gb125, 2, none⟩) (Kd.R_far (p := ⟨gb125, 1, none⟩) (Kd.R_far (p := ⟨gb125, 0, none⟩) (Kd.R_types HO_7.out BK125.out (by decide)) (fun _ hk => hk.2) (.int .i64 t118)) (fun _ hk => hk.2) (.int .i64 t119)) (fun _ hk => hk.2) (.int .i64 t120)) (fun _ hk => hk.2) (.int .i64 t121)) (fun _ hk => hk.2) (.int .i64 t122)) (fun _ hk => hk.2) (.int .i64 t123)) (fun _ hk => trivial)), (by (with_reducible repeat (first | refine blk_drewN ?_ _ | refine blk_drew ?_ | refine blk_alloc ?_ _)); refine blk_far ?_ NB112_125.out _; (with_reducible repeat (first | refine blk_drewN ?_ _ | refine blk_drew ?_ | refine blk_alloc ?_ _)); refine blk_far ?_ NB112_125.out _; (with_reducible repeat (first | refine blk_drewN ?_ _ | refine blk_drew ?_ | refine blk_alloc ?_ _)); refine blk_far ?_ NB112_125.out _; (with_reducible repeat (first | refine blk_drewN ?_ _ | refine blk_drew ?_ | refine blk_alloc ?_ _)); refine blk_far ?_ NB112_125.out _; (with_reducible repeat (first | refine blk_drewN ?_ _ | refine blk_drew ?_ | refine blk_alloc ?_ _)); refine blk_far ?_ NB112_125.out _; (with_reducible repeat (first | refine blk_drewN ?_ _ | refine blk_drew ?_ | refine blk_alloc ?_ _)); refine blk_far ?_ NB112_125.out _; (with_reducible repeat (first | refine blk_drewN ?_ _ | refine blk_drew ?_ | refine blk_alloc ?_ _)); exact BK112.out), (by (with_reducible repeat (first | refine blk_drewN ?_ _ | refine blk_drew ?_ | refine blk_alloc ?_ _)); refine blk_far ?_ NB113_125.out _; (with_reducible repeat (first | refine blk_drewN ?_ _ | refine blk_drew ?_ | refine blk_alloc ?_ _)); refine blk_far ?_ NB113_125.out _; (with_reducible repeat (first | refine blk_drewN ?_ _ | refine blk_drew ?_ | refine blk_alloc ?_ _)); refine blk_far ?_ NB113_125.out _; (with_reducible repeat (first | refine blk_drewN ?_ _ | refine blk_drew ?_ | refine blk_alloc ?_ _)); refine blk_far ?_ NB113_125.out _; (with_reducible repeat (first | refine blk_drewN ?_ _ | refine blk_drew ?_ | refine blk_alloc ?_ _)); refine blk_far ?_ NB113_125.out _; (with_reducible repeat (first | refine blk_drewN ?_ _ | refine blk_drew ?_ | refine blk_alloc ?_ _)); refine blk_far ?_ NB113_125.out _; (with_reducible repeat (first | refine blk_drewN ?_ _ | refine blk_drew ?_ | refine blk_alloc ?_ _)); exact BK113.out), (by repeat (first | (with_reducible first | exact HB.out | apply below_alloc | apply pw_below_drewN | apply below_drew1 | refine below_set ?_ GE112.out | refine below_set ?_ GE113.out | refine below_set ?_ GE125.out) | exact HB.out)), fun _ h1_ => absurd ((up_self b 10).symm.trans h1_) (by decide), fun _ => GW125.out, fun _ => GE125.out, fun _ => NB112_125.out, fun _ => NB125_112.out, fun _ => NB113_125.out, fun _ => NB125_113.out, fun _ => (by (with_reducible repeat (first | refine blk_drewN ?_ _ | refine blk_drew ?_ | refine blk_alloc ?_ _)); refine blk_put (cs := #[.int .i64 t118, .int .i64 t119, .int .i64 t120, .int .i64 t121, .int .i64 t122, .int .i64 0]) ?_ 5 _ rfl; (with_reducible repeat (first | refine blk_drewN ?_ _ | refine blk_drew ?_ | refine blk_alloc ?_ _)); refine blk_put (cs := #[.int .i64 t118, .int .i64 t119, .int .i64 t120, .int .i64 t121, .int .i64 0, .int .i64 0]) ?_ 4 _ rfl; (with_reducible repeat (first | refine blk_drewN ?_ _ | refine blk_drew ?_ | refine blk_alloc ?_ _)); refine blk_put (cs := #[.int .i64 t118, .int .i64 t119, .int .i64 t120, .int .i64 0, .int .i64 0, .int .i64 0]) ?_ 3 _ rfl; (with_reducible repeat (first | refine blk_drewN ?_ _ | refine blk_drew ?_ | refine blk_alloc ?_ _)); refine blk_put (cs := #[.int .i64 t118, .int .i64 t119, .int .i64 0, .int .i64 0, .int .i64 0, .int .i64 0]) ?_ 2 _ rfl; (with_reducible repeat (first | refine blk_drewN ?_ _ | refine blk_drew ?_ | refine blk_alloc ?_ _)); refine blk_put (cs := #[.int .i64 t118, .int .i64 0, .int .i64 0, .int .i64 0, .int .i64 0, .int .i64 0]) ?_ 1 _ rfl; (with_reducible repeat (first | refine blk_drewN ?_ _ | refine blk_drew ?_ | refine blk_alloc ?_ _)); refine blk_put (cs := #[.int .i64 0, .int .i64 0, .int .i64 0, .int .i64 0, .int .i64 0, .int .i64 0]) ?_ 0 _ rfl; (with_reducible repeat (first | refine blk_drewN ?_ _ | refine blk_drew ?_ | refine blk_alloc ?_ _)); exact BK125.out), Q_X9_⟩
            refine steps_cons ?_ ?_
            · rintro b a w' ⟨gb125, m9_, ha, Q_HO_7, Q_BK112, Q_BK113, Q_HB, Q_BK125, Q_GW125, Q_GE125, Q_NB112_125, Q_NB125_112, Q_NB113_125, Q_NB125_113, Q_BK125_e10, Q_X9_⟩ hb_ hon hoff
              refine ⟨_, rfl, fun K hK => ?_⟩
              have e26 : a.tmps[26]? = some (.bool t124) := by rw [ha]; exact putSel_on (e := (8, 26, .bool t124)) 6 rfl rfl (hon 8 (by kernel_rfl)) rfl
              replace ha := Aside0.mk ha
              have HO_7 := Aside0.mk Q_HO_7
              have BK112 := Aside0.mk Q_BK112
              have BK113 := Aside0.mk Q_BK113
              have HB := Aside0.mk Q_HB
              have GW125 := Aside0.mk (Q_GW125 (hon 9 (by kernel_rfl)))
              have GE125 := Aside0.mk (Q_GE125 (hon 9 (by kernel_rfl)))
              have NB112_125 := Aside0.mk (Q_NB112_125 (hon 9 (by kernel_rfl)))
              have NB125_112 := Aside0.mk (Q_NB125_112 (hon 9 (by kernel_rfl)))
              have NB113_125 := Aside0.mk (Q_NB113_125 (hon 9 (by kernel_rfl)))
              have NB125_113 := Aside0.mk (Q_NB125_113 (hon 9 (by kernel_rfl)))
              have BK125 := Aside0.mk (Q_BK125_e10 (hon 10 (by kernel_rfl)))
              refine value_ (w1 := w') (v := .bool t124) (by rfl) rfl ?_ ?_
              · go_simp
                (try simp only [i64_w])
                try rfl
              refine hK.out _ _ ⟨gb125, m9_, (by rw [ha.out]; exact putSel_upk 8 hb_ rfl rfl rfl), Q_HO_7, Q_BK112, Q_BK113, Q_HB, fun _ h1_ => absurd ((hon 10 (by kernel_rfl)).symm.trans h1_) (by decide), Q_GW125, Q_GE125, Q_NB112_125, Q_NB125_112, Q_NB113_125, Q_NB125_113, Q_BK125_e10, Q_X9_⟩
            exact steps_nil
          rintro b a w20 hall ⟨gb125, m9_, ha, Q_HO_7, Q_BK112, Q_BK113, Q_HB, Q_BK125, Q_GW125, Q_GE125, Q_NB112_125, Q_NB125_112, Q_NB113_125, Q_NB125_113, Q_BK125_e10, Q_X9_⟩
          clear BK112 BK113 HB HO_7
          have hb0_ := hall 0 (by kernel_rfl)
          have hb3_ := hall 3 (by kernel_rfl)
          have hb4_ := hall 4 (by kernel_rfl)
          have hb5_ := hall 5 (by kernel_rfl)
          have hb6_ := hall 6 (by kernel_rfl)
          have hb7_ := hall 7 (by kernel_rfl)
          have hb8_ := hall 8 (by kernel_rfl)
          have hb9_ := hall 9 (by kernel_rfl)
          have hb10_ := hall 10 (by kernel_rfl)
          have hb11_ := hall 11 (by kernel_rfl)
          subst ha
          obtain rfl := Q_X9_ hb9_
          simp only [putSel, hb0_, hb3_, hb4_, hb5_, hb6_, hb7_, hb8_, hb9_, hb10_, hb11_, if_true, Act.put, List.setIfInBounds_toArray, List.set_cons_zero, List.set_cons_succ]
          have HO_7 := Aside0.mk Q_HO_7
          clear Q_HO_7
          have BK112 := Aside0.mk Q_BK112
          clear Q_BK112
          have BK113 := Aside0.mk Q_BK113
          clear Q_BK113
          have HB := Aside0.mk Q_HB
          clear Q_HB
          clear Q_BK125
          have GW125 := Aside0.mk (Q_GW125 hb9_)
          clear Q_GW125
          have GE125 := Aside0.mk (Q_GE125 hb9_)
          clear Q_GE125
          have NB112_125 := Aside0.mk (Q_NB112_125 hb9_)
          clear Q_NB112_125
          have NB125_112 := Aside0.mk (Q_NB125_112 hb9_)
          clear Q_NB125_112
          have NB113_125 := Aside0.mk (Q_NB113_125 hb9_)
          clear Q_NB113_125
          have NB125_113 := Aside0.mk (Q_NB125_113 hb9_)
          clear Q_NB125_113
          have BK125 := Aside0.mk (Q_BK125_e10 hb10_)
          clear Q_BK125_e10
          clear hall hb0_ hb3_ hb4_ hb5_ hb6_ hb7_ hb8_ hb9_ hb10_ hb11_
          go_upto_region 6 with (fail)
          go_cut [33] (fun v33 wc => ∃ (kq : Nat) (x33_9 : Bool), v33 = .bool x33_9 ∧ Aside0 (spec_l5Run.j1 kq l1 x7_1 x8_1 x33_9 t118 t119 t120 t121 t122 t123 = some (r1, r2, r3, r4, r5, r6, r7, r8)) ∧ Aside0 (kq ≤ k1) ∧ Aside0 (Kd.R (Kd.int .i64) 3 wc w.heap.size (fun _ => True) u7 x7_1) ∧ Aside0 (wc.heap[gb112]? = some (.cells #[.int .i64 x113000_1, .int .i64 x113001_1, .int .i64 x113002_1, .int .i64 x113003_1, .int .i64 x113004_1, .int .i64 x113005_1] 41 (0, 0))) ∧ Aside0 (wc.heap[gb113]? = some (.cells #[.int .i64 x114000_1, .int .i64 x114001_1, .int .i64 x114002_1, .int .i64 x114003_1, .int .i64 x114004_1, .int .i64 x114005_1] 41 (0, 0))) ∧ Aside0 (wc.heap[gb125]? = some (.cells #[.int .i64 t118, .int .i64 t119, .int .i64 t120, .int .i64 t121, .int .i64 t122, .int .i64 t123] 41 (0, 0))) ∧ Aside0 (Below w.heap.size w wc))
          case first =>
            have H := HC10.out
            clear HC10
            by_cases c21 : t124 = true
            · subst c21
              have H1 : ((xL5Next.f t118 t119 t120 t121 t122 t123).bind fun t126 => (spec_l5Run.j1 k1 l1 x7_1 x8_1 (t126 == 0) t118 t119 t120 t121 t122 t123)) = some (r1, r2, r3, r4, r5, r6, r7, r8) := by rw [if_pos rfl] at H; exact H
              clear H
              have H := H1
              clear H1
              replace H := Option.bind_eq_some_iff.mp H
              obtain ⟨t126, A220, H⟩ := H
              replace H : (spec_l5Run.j1 k1 l1 x7_1 x8_1 (t126 == 0) t118 t119 t120 t121 t122 t123) = some (r1, r2, r3, r4, r5, r6, r7, r8) := H
              have A22 := Aside0.mk A220
              clear A220
              have H' := Aside0.mk H
              clear H
              have hnb23 := NB125_112.out
              have hnc23 := NB112_125.out
              have hnb24 := NB125_113.out
              have hnc24 := NB113_125.out
              have hcz25_0 : w20.cell? ⟨gb125, 0, none⟩ = some (.int .i64 t118) := (blk_cell BK125.out 0).trans rfl
              have hcz25_1 : w20.cell? ⟨gb125, 1, none⟩ = some (.int .i64 t119) := (blk_cell BK125.out 1).trans rfl
              have hcz25_2 : w20.cell? ⟨gb125, 2, none⟩ = some (.int .i64 t120) := (blk_cell BK125.out 2).trans rfl
              have hcz25_3 : w20.cell? ⟨gb125, 3, none⟩ = some (.int .i64 t121) := (blk_cell BK125.out 3).trans rfl
              have hcz25_4 : w20.cell? ⟨gb125, 4, none⟩ = some (.int .i64 t122) := (blk_cell BK125.out 4).trans rfl
              have hcz25_5 : w20.cell? ⟨gb125, 5, none⟩ = some (.int .i64 t123) := (blk_cell BK125.out 5).trans rfl
              have hfz25_0 := blk_frozen BK125.out 0
              have hfz25_1 := blk_frozen BK125.out 1
              have hfz25_2 := blk_frozen BK125.out 2
              have hfz25_3 := blk_frozen BK125.out 3
              have hfz25_4 := blk_frozen BK125.out 4
              have hfz25_5 := blk_frozen BK125.out 5
              go_wp2_with (first | (go_at_call 59; (with_reducible refine (xL5Next.calls t118 t119 t120 t121 t122 t123 t126 _ A22.out).mono ?_); rintro e w26 ⟨rfl, hb⟩; have n0_ := Aside0.mk (Kd.R_below (by (with_reducible repeat (first | apply Kd.R_alloc | apply Kd.R_drewN | apply Kd.R_drew)); exact HO_7.out) hb); have n1_ := Aside0.mk (blk_below (g := gb112) (o := .cells #[.int .i64 x113000_1, .int .i64 x113001_1, .int .i64 x113002_1, .int .i64 x113003_1, .int .i64 x113004_1, .int .i64 x113005_1] 41 (0, 0)) (by (with_reducible repeat (first | refine blk_drewN ?_ _ | refine blk_drew ?_ | refine blk_alloc ?_ _)); exact BK112.out) hb); have n2_ := Aside0.mk (blk_below (g := gb113) (o := .cells #[.int .i64 x114000_1, .int .i64 x114001_1, .int .i64 x114002_1, .int .i64 x114003_1, .int .i64 x114004_1, .int .i64 x114005_1] 41 (0, 0)) (by (with_reducible repeat (first | refine blk_drewN ?_ _ | refine blk_drew ?_ | refine blk_alloc ?_ _)); exact BK113.out) hb); have n3_ := Aside0.mk (blk_below (g := gb125) (o := .cells #[.int .i64 t118, .int .i64 t119, .int .i64 t120, .int .i64 t121, .int .i64 t122, .int .i64 t123] 41 (0, 0)) (by (with_reducible repeat (first | refine blk_drewN ?_ _ | refine blk_drew ?_ | refine blk_alloc ?_ _)); exact BK125.out) hb); have n4_ := Aside0.mk (below_step (by repeat (first | (with_reducible first | exact HB.out | apply below_alloc | apply pw_below_drewN | apply below_drew1 | refine below_set ?_ GE112.out | refine below_set ?_ GE113.out | refine below_set ?_ GE125.out) | exact HB.out)) hb); clear HO_7; clear BK112; clear BK113; clear BK125; clear HB; have HO_7 := n0_; have BK112 := n1_; have BK113 := n2_; have BK125 := n3_; have HB := n4_; clear n0_ n1_ n2_ n3_ n4_; (try clear hb); (try clear hb2); (try clear hk); (try clear hi)))
              go_meet
              case rel => exact ⟨_, ((t126 == 0)), (by first | rfl | (simp; done) | (simp [*]; done)), H', ⟨by have := HK1.out; first | omega | exact Nat.le_refl _⟩, ⟨by (with_reducible repeat (first | apply Kd.R_alloc | apply Kd.R_drewN | apply Kd.R_drew)); exact HO_7.out⟩, ⟨by (with_reducible repeat (first | refine blk_drewN ?_ _ | refine blk_drew ?_ | refine blk_alloc ?_ _)); exact BK112.out⟩, ⟨by (with_reducible repeat (first | refine blk_drewN ?_ _ | refine blk_drew ?_ | refine blk_alloc ?_ _)); exact BK113.out⟩, ⟨by (with_reducible repeat (first | refine blk_drewN ?_ _ | refine blk_drew ?_ | refine blk_alloc ?_ _)); exact BK125.out⟩, ⟨by repeat (first | (with_reducible first | exact HB.out | apply below_alloc | apply pw_below_drewN | apply below_drew1 | refine below_set ?_ GE112.out | refine below_set ?_ GE113.out | refine below_set ?_ GE125.out) | exact HB.out)⟩⟩
            · replace c21 := Bool.eq_false_iff.mpr c21
              subst c21
              have H1 : (spec_l5Run.j1 k1 l1 x7_1 x8_1 true t118 t119 t120 t121 t122 t123) = some (r1, r2, r3, r4, r5, r6, r7, r8) := by rw [if_neg (show ¬ (false = true) by decide)] at H; exact H
              clear H
              have H := H1
              clear H1
              have H' := Aside0.mk H
              clear H
              go_wp2
              go_meet
              case rel => exact ⟨_, (true), (by first | rfl | (simp; done) | (simp [*]; done)), H', ⟨by have := HK1.out; first | omega | exact Nat.le_refl _⟩, ⟨by (with_reducible repeat (first | apply Kd.R_alloc | apply Kd.R_drewN | apply Kd.R_drew)); exact HO_7.out⟩, ⟨by (with_reducible repeat (first | refine blk_drewN ?_ _ | refine blk_drew ?_ | refine blk_alloc ?_ _)); exact BK112.out⟩, ⟨by (with_reducible repeat (first | refine blk_drewN ?_ _ | refine blk_drew ?_ | refine blk_alloc ?_ _)); exact BK113.out⟩, ⟨by (with_reducible repeat (first | refine blk_drewN ?_ _ | refine blk_drew ?_ | refine blk_alloc ?_ _)); exact BK125.out⟩, ⟨by repeat (first | (with_reducible first | exact HB.out | apply below_alloc | apply pw_below_drewN | apply below_drew1 | refine below_set ?_ GE112.out | refine below_set ?_ GE113.out | refine below_set ?_ GE125.out) | exact HB.out)⟩⟩
          case rest =>
            clear HC10
            try clear c1
            try clear p1
            try clear q1
            try clear hx1
            try clear c2
            try clear p2
            try clear c3
            try clear c4
            try clear c5
            try clear c7
            try clear c7b0
            try clear c8
            try clear c8b0
            try clear p11
            try clear q11
            try clear hx11
            try clear c21
            try clear c23
            try clear c24
            try clear hcz25_0
            try clear hcz25_1
            try clear hcz25_2
            try clear hcz25_3
            try clear hcz25_4
            try clear hcz25_5
            try clear hfz25_0
            try clear hfz25_1
            try clear hfz25_2
            try clear hfz25_3
            try clear hfz25_4
            try clear hfz25_5
            try clear hx117_0
            try clear hx117_1
            try clear hx117_2
            try clear p117
            try clear p2
            try clear q117
            obtain ⟨kq, x33_9, rfl, HA, HJ9, HO_7, BK112, BK113, BK125, HB⟩ := hcut
            cases kq with
            | zero => exact absurd HA.out (by simp [spec_l5Run.j1])
            | succ kj9 =>
              have H := HA.out
              clear HA
              simp only [spec_l5Run.j1] at H
              by_cases c27 : x33_9 = true
              · subst c27
                have H1 : (some ((([] : List Int)), 0, 0, 0, 0, 0, 0, false)) = some (r1, r2, r3, r4, r5, r6, r7, r8) := by rw [if_pos rfl] at H; exact H
                clear H
                have H := H1
                clear H1
                obtain ⟨y127, hy127⟩ : ∃ y_ : List Int, y_ = (([] : List Int)) := ⟨_, rfl⟩
                replace H : (some (y127, 0, 0, 0, 0, 0, 0, false)) = some (r1, r2, r3, r4, r5, r6, r7, r8) := by first | (rw [hy127]; with_reducible exact H) | (have H2_ := (Option.bind_some _ _).symm.trans H; rw [hy127]; with_reducible exact H2_) | (have H2_ := (Option.bind_some _ _).symm.trans H; with_reducible exact H2_) | with_reducible exact H | (rw [hy127]; exact H) | exact H
                have Ny127 := Aside0.mk hy127
                clear hy127
                simp only [Option.some.injEq, Prod.mk.injEq] at H
                obtain ⟨rfl, rfl, rfl, rfl, rfl, rfl, rfl, rfl⟩ := H
                go_wp2_with (first | ((with_reducible refine gate_dst (N := 34) rfl ?_); refine Kd.R_lit (Kd.int .i64) _ 3 ?hg (N := 34) ?hd (xs := ([] : List Int)) (inner := []) (ok := fun _ => True) (okp := fun _ => True) ?hr ?hp (fun _ hk => hk) trivial (Below.refl _ _) (Nat.le_refl _) (by simp) ?_; (case hd => rfl); (case hg => rfl); (case hr => first | (go_simp; done) | (go_simp; rfl)); (case hp => exact (Reps.none _ _)); intro v128 w28 ho29 hb hg_ hnew_; clear hg_ hnew_; (first | rw [← Ny127.out] at ho29 | (simp only [Int.reduceToNat] at ho29; rw [← Ny127.out] at ho29)); have n0_ := Aside0.mk (Kd.R_elder' (by (with_reducible repeat (first | apply Kd.R_alloc | apply Kd.R_drewN | apply Kd.R_drew)); exact HO_7.out) (Kd.R_base ho29) hb); have n1_ := Aside0.mk (Kd.R_lower (Kd.R_new' ho29 (Kd.R_lt (by (with_reducible repeat (first | apply Kd.R_alloc | apply Kd.R_drewN | apply Kd.R_drew)); exact HO_7.out))) (below_size (by repeat (first | (with_reducible first | exact HB.out | apply below_alloc | apply pw_below_drewN | apply below_drew1 | refine below_set ?_ GE112.out | refine below_set ?_ GE113.out | refine below_set ?_ GE125.out) | exact HB.out)))); have n2_ := Aside0.mk (blk_below (g := gb112) (o := .cells #[.int .i64 x113000_1, .int .i64 x113001_1, .int .i64 x113002_1, .int .i64 x113003_1, .int .i64 x113004_1, .int .i64 x113005_1] 41 (0, 0)) (by (with_reducible repeat (first | refine blk_drewN ?_ _ | refine blk_drew ?_ | refine blk_alloc ?_ _)); exact BK112.out) hb); have n3_ := Aside0.mk (blk_below (g := gb113) (o := .cells #[.int .i64 x114000_1, .int .i64 x114001_1, .int .i64 x114002_1, .int .i64 x114003_1, .int .i64 x114004_1, .int .i64 x114005_1] 41 (0, 0)) (by (with_reducible repeat (first | refine blk_drewN ?_ _ | refine blk_drew ?_ | refine blk_alloc ?_ _)); exact BK113.out) hb); have n4_ := Aside0.mk (blk_below (g := gb125) (o := .cells #[.int .i64 t118, .int .i64 t119, .int .i64 t120, .int .i64 t121, .int .i64 t122, .int .i64 t123] 41 (0, 0)) (by (with_reducible repeat (first | refine blk_drewN ?_ _ | refine blk_drew ?_ | refine blk_alloc ?_ _)); exact BK125.out) hb); have n5_ := Aside0.mk (below_step (by repeat (first | (with_reducible first | exact HB.out | apply below_alloc | apply pw_below_drewN | apply below_drew1 | refine below_set ?_ GE112.out | refine below_set ?_ GE113.out | refine below_set ?_ GE125.out) | exact HB.out)) hb); clear HO_7; clear BK112; clear BK113; clear BK125; clear HB; have HO_7 := n0_; have HO129 := n1_; have BK112 := n2_; have BK113 := n3_; have BK125 := n4_; have HB := n5_; clear n0_ n1_ n2_ n3_ n4_ n5_; clear hb ho29; have hnb30 := NB113_112.out; have hnc30 := NB112_113.out; have hnb31 := NB113_125.out; have hnc31 := NB125_113.out; have hcz32_0 : w28.cell? ⟨gb113, 0, none⟩ = some (.int .i64 x114000_1) := (blk_cell BK113.out 0).trans rfl; have hcz32_1 : w28.cell? ⟨gb113, 1, none⟩ = some (.int .i64 x114001_1) := (blk_cell BK113.out 1).trans rfl; have hcz32_2 : w28.cell? ⟨gb113, 2, none⟩ = some (.int .i64 x114002_1) := (blk_cell BK113.out 2).trans rfl; have hcz32_3 : w28.cell? ⟨gb113, 3, none⟩ = some (.int .i64 x114003_1) := (blk_cell BK113.out 3).trans rfl; have hcz32_4 : w28.cell? ⟨gb113, 4, none⟩ = some (.int .i64 x114004_1) := (blk_cell BK113.out 4).trans rfl; have hcz32_5 : w28.cell? ⟨gb113, 5, none⟩ = some (.int .i64 x114005_1) := (blk_cell BK113.out 5).trans rfl; have hfz32_0 := blk_frozen BK113.out 0; have hfz32_1 := blk_frozen BK113.out 1; have hfz32_2 := blk_frozen BK113.out 2; have hfz32_3 := blk_frozen BK113.out 3; have hfz32_4 := blk_frozen BK113.out 4; have hfz32_5 := blk_frozen BK113.out 5))
                refine bodyPost_ret (results_list (rs := [.tmp 4, .cell 5 41, .tmp 6]) rfl (by simp) (.tmp (.cell gb113 41 #[.int .i64 0, .int .i64 0, .int .i64 0, .int .i64 0, .int .i64 0, .int .i64 0] (0, 0) _ rfl (by (with_reducible repeat (first | refine blk_drewN ?_ _ | refine blk_drew ?_ | refine blk_alloc ?_ _)); refine blk_put (cs := #[.int .i64 0, .int .i64 0, .int .i64 0, .int .i64 0, .int .i64 0, .int .i64 x114005_1]) ?_ 5 _ rfl; (with_reducible repeat (first | refine blk_drewN ?_ _ | refine blk_drew ?_ | refine blk_alloc ?_ _)); refine blk_put (cs := #[.int .i64 0, .int .i64 0, .int .i64 0, .int .i64 0, .int .i64 x114004_1, .int .i64 x114005_1]) ?_ 4 _ rfl; (with_reducible repeat (first | refine blk_drewN ?_ _ | refine blk_drew ?_ | refine blk_alloc ?_ _)); refine blk_put (cs := #[.int .i64 0, .int .i64 0, .int .i64 0, .int .i64 x114003_1, .int .i64 x114004_1, .int .i64 x114005_1]) ?_ 3 _ rfl; (with_reducible repeat (first | refine blk_drewN ?_ _ | refine blk_drew ?_ | refine blk_alloc ?_ _)); refine blk_put (cs := #[.int .i64 0, .int .i64 0, .int .i64 x114002_1, .int .i64 x114003_1, .int .i64 x114004_1, .int .i64 x114005_1]) ?_ 2 _ rfl; (with_reducible repeat (first | refine blk_drewN ?_ _ | refine blk_drew ?_ | refine blk_alloc ?_ _)); refine blk_put (cs := #[.int .i64 0, .int .i64 x114001_1, .int .i64 x114002_1, .int .i64 x114003_1, .int .i64 x114004_1, .int .i64 x114005_1]) ?_ 1 _ rfl; (with_reducible repeat (first | refine blk_drewN ?_ _ | refine blk_drew ?_ | refine blk_alloc ?_ _)); refine blk_put (cs := #[.int .i64 x114000_1, .int .i64 x114001_1, .int .i64 x114002_1, .int .i64 x114003_1, .int .i64 x114004_1, .int .i64 x114005_1]) ?_ 0 _ rfl; (with_reducible repeat (first | refine blk_drewN ?_ _ | refine blk_drew ?_ | refine blk_alloc ?_ _)); exact BK113.out) Try.underlying41 rfl (by kernel_rfl) (.tmp .nil)))) rfl ?_
                exact ⟨_, by first | rfl | (simp [errW_none, errW_some] <;> rfl) | (simp [*, errW_none, errW_some] <;> rfl), by (with_reducible repeat (first | apply Kd.R_alloc | apply Kd.R_drewN | apply Kd.R_drew)); exact Kd.R_mono (Kd.R_far (p := ⟨gb113, 5, none⟩) (Kd.R_far (p := ⟨gb113, 4, none⟩) (Kd.R_far (p := ⟨gb113, 3, none⟩) (Kd.R_far (p := ⟨gb113, 2, none⟩) (Kd.R_far (p := ⟨gb113, 1, none⟩) (Kd.R_far (p := ⟨gb113, 0, none⟩) (Kd.R_types HO129.out BK113.out (by decide)) (fun _ hk => hk.2) (.int .i64 0)) (fun _ hk => hk.2) (.int .i64 0)) (fun _ hk => hk.2) (.int .i64 0)) (fun _ hk => hk.2) (.int .i64 0)) (fun _ hk => hk.2) (.int .i64 0)) (fun _ hk => hk.2) (.int .i64 0)) (fun _ hk => trivial), by repeat (first | (with_reducible first | exact HB.out | apply below_alloc | apply pw_below_drewN | apply below_drew1 | refine below_set ?_ GE112.out | refine below_set ?_ GE113.out | refine below_set ?_ GE125.out) | exact HB.out)⟩
              · replace c27 := Bool.eq_false_iff.mpr c27
                subst c27
                have H1 : (if 0 ≤ x8_1 then (if x8_1 < (x7_1.length : Int) then ((xL5Next.f t118 t119 t120 t121 t122 t123).bind fun t131 => (if x7_1.length < 17592186044416 then ((xL5Next.f t118 t119 t120 t121 t122 t123).bind fun t135 => ((xL5Burn.f t118 t119 t120 t121 t122 t123 t135).bind fun bt136 => (spec_l5Run.l0 kj9 l1 (x7_1 ++ [wrap64 ((rd x7_1 x8_1) + t131)]) (wrap64 (x8_1 + 1)) bt136.1 bt136.2.1 bt136.2.2.1 bt136.2.2.2.1 bt136.2.2.2.2.1 bt136.2.2.2.2.2))) else (none))) else (none)) else (none)) = some (r1, r2, r3, r4, r5, r6, r7, r8) := by rw [if_neg (show ¬ (false = true) by decide)] at H; exact H
                clear H
                have H := H1
                clear H1
                by_cases c33 : 0 ≤ x8_1
                · rw [if_pos c33] at H
                  have c33b0 : decide (0 ≤ x8_1) = true := decide_eq_true c33
                  clear c33
                  by_cases c34 : x8_1 < (x7_1.length : Int)
                  · rw [if_pos c34] at H
                    have c34b0 : decide (x8_1 < (x7_1.length : Int)) = true := decide_eq_true c34
                    clear c34
                    replace H := Option.bind_eq_some_iff.mp H
                    obtain ⟨t131, A350, H⟩ := H
                    replace H : (if x7_1.length < 17592186044416 then ((xL5Next.f t118 t119 t120 t121 t122 t123).bind fun t135 => ((xL5Burn.f t118 t119 t120 t121 t122 t123 t135).bind fun bt136 => (spec_l5Run.l0 kj9 l1 (x7_1 ++ [wrap64 ((rd x7_1 x8_1) + t131)]) (wrap64 (x8_1 + 1)) bt136.1 bt136.2.1 bt136.2.2.1 bt136.2.2.2.1 bt136.2.2.2.2.1 bt136.2.2.2.2.2))) else (none)) = some (r1, r2, r3, r4, r5, r6, r7, r8) := H
                    have A35 := Aside0.mk A350
                    clear A350
                    by_cases c36 : x7_1.length < 17592186044416
                    · rw [if_pos c36] at H
                      have LMc36 := Aside0.mk c36
                      clear c36
                      obtain ⟨y132, hy132⟩ : ∃ y_ : List Int, y_ = (x7_1 ++ [wrap64 ((rd x7_1 x8_1) + t131)]) := ⟨_, rfl⟩
                      replace H : ((xL5Next.f t118 t119 t120 t121 t122 t123).bind fun t135 => ((xL5Burn.f t118 t119 t120 t121 t122 t123 t135).bind fun bt136 => (spec_l5Run.l0 kj9 l1 y132 (wrap64 (x8_1 + 1)) bt136.1 bt136.2.1 bt136.2.2.1 bt136.2.2.2.1 bt136.2.2.2.2.1 bt136.2.2.2.2.2))) = some (r1, r2, r3, r4, r5, r6, r7, r8) := by first | (rw [hy132]; with_reducible exact H) | (have H2_ := (Option.bind_some _ _).symm.trans H; rw [hy132]; with_reducible exact H2_) | (have H2_ := (Option.bind_some _ _).symm.trans H; with_reducible exact H2_) | with_reducible exact H | (rw [hy132]; exact H) | exact H
                      have Ny132 := Aside0.mk hy132
                      clear hy132
                      replace H := Option.bind_eq_some_iff.mp H
                      obtain ⟨t135, A370, H⟩ := H
                      replace H : ((xL5Burn.f t118 t119 t120 t121 t122 t123 t135).bind fun bt136 => (spec_l5Run.l0 kj9 l1 y132 (wrap64 (x8_1 + 1)) bt136.1 bt136.2.1 bt136.2.2.1 bt136.2.2.2.1 bt136.2.2.2.2.1 bt136.2.2.2.2.2)) = some (r1, r2, r3, r4, r5, r6, r7, r8) := H
                      have A37 := Aside0.mk A370
                      clear A370
                      replace H := Option.bind_eq_some_iff.mp H
                      obtain ⟨⟨t136, t137, t138, t139, t140, t141⟩, A380, H⟩ := H
                      replace H : (spec_l5Run.l0 kj9 l1 y132 (wrap64 (x8_1 + 1)) t136 t137 t138 t139 t140 t141) = some (r1, r2, r3, r4, r5, r6, r7, r8) := H
                      have A38 := Aside0.mk A380
                      clear A380
                      have H' := Aside0.mk H
                      clear H
                      try go_wp2
                      have n0_ := Aside0.mk (Kd.R_drew HO_7.out)
                      have n1_ := Aside0.mk (blk_drew BK112.out)
                      have n2_ := Aside0.mk (blk_drew BK113.out)
                      have n3_ := Aside0.mk (blk_drew BK125.out)
                      have n4_ := Aside0.mk (below_drew1 HB.out)
                      clear HO_7
                      clear BK112
                      clear BK113
                      clear BK125
                      clear HB
                      have HO_7 := n0_
                      have BK112 := n1_
                      have BK113 := n2_
                      have BK125 := n3_
                      have HB := n4_
                      clear n0_ n1_ n2_ n3_ n4_
                      obtain ⟨Ao40, co40, eo40⟩ := Kd.R_slice HO_7.out
                      (first | subst eo40 | (injection eo40 with f1_ f2_ f3_; have f4_ := f1_.symm; have f5_ := f3_.symm; clear f1_ f2_ f3_; subst f4_; subst f5_))
                      have p130 : 0 ≤ (x8_1 : Int) := of_decide_eq_true (by first | (with_reducible assumption) | assumption)
                      have q130 : x8_1 < (x7_1.length : Int) := of_decide_eq_true (by first | (with_reducible assumption) | assumption)
                      obtain ⟨ad130, e130, hx130_0⟩ := Kd.at_int (Kd.R_reads' HO_7.out).2.2 x8_1 p130 q130
                      cases e130
                      replace p130 := eq_true p130
                      replace q130 := eq_true q130
                      refine start_ (n := 11) (S := fun w' => w'.cell? ⟨gb125, 0, none⟩ = some (.int .i64 t118) ∧ w'.cell? ⟨gb125, 1, none⟩ = some (.int .i64 t119) ∧ w'.cell? ⟨gb125, 2, none⟩ = some (.int .i64 t120) ∧ w'.cell? ⟨gb125, 3, none⟩ = some (.int .i64 t121) ∧ w'.cell? ⟨gb125, 4, none⟩ = some (.int .i64 t122) ∧ w'.cell? ⟨gb125, 5, none⟩ = some (.int .i64 t123) ∧ w'.cell? (ad130.add (x8_1).toNat) = some (.int .i64 (rd x7_1 x8_1))) (ds := [8, 9]) #[false, false, false, false, false, false, false, false, false, false, false] (by kernel_rfl) rfl rfl ⟨(blk_cell BK125.out 0).trans rfl, (blk_cell BK125.out 1).trans rfl, (blk_cell BK125.out 2).trans rfl, (blk_cell BK125.out 3).trans rfl, (blk_cell BK125.out 4).trans rfl, (blk_cell BK125.out 5).trans rfl, hx130_0⟩ (fun hHeld => ?_); refine with_tabW spec_l5Run.tab8 spec_l5Run.bits8 (fun HT_ HW_ => ?_)
                      generalize wc.drew = w39 at HO_7 BK112 BK113 BK125 HB hx130_0 hHeld ⊢
                      refine pure_ (i := 0) (N := some 36) (v := ?_) (a' := ?_) #[true, false, false, false, false, false, false, false, false, false, false] rfl rfl (any_of HT_.out (by kernel_rfl)) (fun _ _ _ h => h) (Or.inl ⟨by rfl, ?_⟩) ?_ ?_
                      rotate_left
                      · intro w'
                        go_simp
                        with_reducible rfl
                      rotate_left
                      · simp only [Act.put, List.setIfInBounds_toArray, List.set_cons_zero, List.set_cons_succ, i64_w, i32_w]
                        rfl
                      refine pure_ (i := 1) (N := some 37) (v := ?_) (a' := ?_) #[true, true, false, false, false, false, false, false, false, false, false] rfl rfl (any_of HT_.out (by kernel_rfl)) (fun _ _ _ h => h) (Or.inl ⟨by rfl, ?_⟩) ?_ ?_
                      rotate_left
                      · intro w'
                        go_simp
                        with_reducible rfl
                      rotate_left
                      · simp only [Act.put, List.setIfInBounds_toArray, List.set_cons_zero, List.set_cons_succ, i64_w, i32_w]
                        rfl
                      refine pure_ (i := 2) (N := some 38) (v := ?_) (a' := ?_) #[true, true, true, false, false, false, false, false, false, false, false] rfl rfl (any_of HT_.out (by kernel_rfl)) (fun _ _ _ h => h) (Or.inl ⟨by rfl, ?_⟩) ?_ ?_
                      rotate_left
                      · intro w'
                        go_simp
                        with_reducible rfl
                      rotate_left
                      · simp only [Act.put, List.setIfInBounds_toArray, List.set_cons_zero, List.set_cons_succ, i64_w, i32_w]
                        rfl
                      refine pure_ (i := 3) (N := some 39) (v := ?_) (a' := ?_) #[true, true, true, true, false, false, false, false, false, false, false] rfl rfl (any_of HT_.out (by kernel_rfl)) (fun _ _ _ h => h) (Or.inl ⟨by rfl, ?_⟩) ?_ ?_
                      rotate_left
                      · intro w'
                        go_simp
                        with_reducible rfl
                      rotate_left
                      · simp only [Act.put, List.setIfInBounds_toArray, List.set_cons_zero, List.set_cons_succ, i64_w, i32_w]
                        rfl
                      refine take_ (i := 4) (N := some 40) (v := ?_) (a' := ?_) #[true, true, true, true, true, false, false, false, false, false, false] rfl rfl (take_ofW HT_.out HW_.out (by kernel_rfl)) (fun _ _ _ h => h) (Or.inl ⟨by rfl, ?_⟩) hHeld ?_ ?_
                      rotate_left
                      · rintro w' ⟨s0, s1, s2, s3, s4, s5, s6⟩
                        go_simp
                        with_reducible rfl
                      rotate_left
                      · simp only [Act.put, List.setIfInBounds_toArray, List.set_cons_zero, List.set_cons_succ, i64_w, i32_w]
                        rfl
                      refine take_ (i := 5) (N := some 41) (v := ?_) (a' := ?_) #[true, true, true, true, true, true, false, false, false, false, false] rfl rfl (take_ofW HT_.out HW_.out (by kernel_rfl)) (fun _ _ _ h => h) (Or.inl ⟨by rfl, ?_⟩) hHeld ?_ ?_
                      rotate_left
                      · rintro w' ⟨s0, s1, s2, s3, s4, s5, s6⟩
                        go_simp
                        with_reducible rfl
                      rotate_left
                      · simp only [Act.put, List.setIfInBounds_toArray, List.set_cons_zero, List.set_cons_succ, i64_w, i32_w]
                        rfl
                      refine one_ (i := 6) (N := some 42) #[true, true, true, true, true, true, true, false, false, false, false] rfl rfl (one_of HT_.out (by kernel_rfl)) (by decide) (fun K hK => ?_)
                      refine goes_ Try.func59 (by kernel_rfl) rfl #[.agg #[.int .i64 t118, .int .i64 t119, .int .i64 t120, .int .i64 t121, .int .i64 t122, .int .i64 t123]] (by rfl) rfl rfl (by (try simp only [List.map_toArray, List.map_cons, List.map_nil]); first | done | rfl | (simp only [List.length_drop, List.length_take]; rfl)) ?_
                      with_reducible refine (xL5Next.calls t118 t119 t120 t121 t122 t123 t131 _ A35.out).mono ?_
                      rintro e w41 ⟨rfl, hb⟩
                      have HS6_ := (hb.cell (World.block_lt_of_cell? _ _ (hHeld.2.2.2.2.2.2))).trans (hHeld.2.2.2.2.2.2)
                      refine ⟨_, rfl, ?_⟩
                      have n0_ := Aside0.mk (Kd.R_below (by (with_reducible repeat (first | apply Kd.R_alloc | apply Kd.R_drewN | apply Kd.R_drew)); exact HO_7.out) hb)
                      have n1_ := Aside0.mk (blk_below (g := gb112) (o := .cells #[.int .i64 x113000_1, .int .i64 x113001_1, .int .i64 x113002_1, .int .i64 x113003_1, .int .i64 x113004_1, .int .i64 x113005_1] 41 (0, 0)) (by (with_reducible repeat (first | refine blk_drewN ?_ _ | refine blk_drew ?_ | refine blk_alloc ?_ _)); exact BK112.out) hb)
                      have n2_ := Aside0.mk (blk_below (g := gb113) (o := .cells #[.int .i64 x114000_1, .int .i64 x114001_1, .int .i64 x114002_1, .int .i64 x114003_1, .int .i64 x114004_1, .int .i64 x114005_1] 41 (0, 0)) (by (with_reducible repeat (first | refine blk_drewN ?_ _ | refine blk_drew ?_ | refine blk_alloc ?_ _)); exact BK113.out) hb)
                      have n3_ := Aside0.mk (blk_below (g := gb125) (o := .cells #[.int .i64 t118, .int .i64 t119, .int .i64 t120, .int .i64 t121, .int .i64 t122, .int .i64 t123] 41 (0, 0)) (by (with_reducible repeat (first | refine blk_drewN ?_ _ | refine blk_drew ?_ | refine blk_alloc ?_ _)); exact BK125.out) hb)
                      have n4_ := Aside0.mk (below_step (by repeat (first | (with_reducible first | exact HB.out | apply below_alloc | apply pw_below_drewN | apply below_drew1 | refine below_set ?_ GE112.out | refine below_set ?_ GE113.out | refine below_set ?_ GE125.out) | exact HB.out)) hb)
                      clear HO_7
                      clear BK112
                      clear BK113
                      clear BK125
                      clear HB
                      have HO_7 := n0_
                      have BK112 := n1_
                      have BK113 := n2_
                      have BK125 := n3_
                      have HB := n4_
                      clear n0_ n1_ n2_ n3_ n4_
                      (try clear hb)
                      (try clear hb2)
                      (try clear hk)
                      (try clear hi)
                      refine hK.out _ _ ⟨(blk_cell BK125.out 0).trans rfl, (blk_cell BK125.out 1).trans rfl, (blk_cell BK125.out 2).trans rfl, (blk_cell BK125.out 3).trans rfl, (blk_cell BK125.out 4).trans rfl, (blk_cell BK125.out 5).trans rfl, HS6_⟩ (fun hHeld => ?_)
                      clear hK K
                      refine norm_ (a' := ?_) ?_ ?_
                      rotate_left
                      · show Act.put _ (some 42) _ = _
                        simp only [Act.put, List.setIfInBounds_toArray, List.set_cons_zero, List.set_cons_succ, i64_w, i32_w]
                        rfl
                      refine pure_ (i := 7) (N := some 43) (v := ?_) (a' := ?_) #[true, true, true, true, true, true, true, true, false, false, false] rfl rfl (any_of HT_.out (by kernel_rfl)) (fun _ _ _ h => h) (Or.inl ⟨by rfl, ?_⟩) ?_ ?_
                      rotate_left
                      · intro w'
                        go_simp
                        with_reducible rfl
                      rotate_left
                      · simp only [Act.put, List.setIfInBounds_toArray, List.set_cons_zero, List.set_cons_succ, i64_w, i32_w]
                        rfl
                      refine last_ (i := 8) (N := some 44) #[true, true, true, true, true, true, true, true, true, false, false] rfl rfl (one_of HT_.out (by kernel_rfl)) (by decide) (fun K hK => ?_)
                      refine value_ (w1 := ?_) (v := ?_) (by rfl) rfl ?_ ?_
                      rotate_left 2
                      · go_simp
                        constructor
                        · rfl
                        · rfl
                      refine hK.out _ _ ?_
                      clear hK K
                      refine norm_ (a' := ?_) ?_ ?_
                      rotate_left
                      · show Act.put _ (some 44) _ = _
                        simp only [Act.put, List.setIfInBounds_toArray, List.set_cons_zero, List.set_cons_succ, i64_w, i32_w]
                        rfl
                      refine last_ (i := 9) (N := some 45) #[true, true, true, true, true, true, true, true, true, true, false] rfl rfl (one_of HT_.out (by kernel_rfl)) (by decide) (fun K hK => ?_)
                      refine Kd.R_append_step (Kd.int .i64) (w0 := w) w.heap.size (by rfl) (.tmp 36) (.tmp 44) 25 3 (.int .i64 0) 8 rfl Try.underlying25 info3 rfl (by decide) (by omega) (.slice (some ad130) x7_1.length co40) x7_1 (wrap64 ((rd x7_1 x8_1) + t131)) [.int .i64 (wrap64 ((rd x7_1 x8_1) + t131))] (fun _ => True) (fun _ => False) rfl rfl ?aP (fun _ hk => hk.elim) ?aF ?aO ?aB ?aS ?aL ?_
                      (case aP => exact rfl)
                      (case aB => exact (by repeat (first | (with_reducible first | exact HB.out | apply below_alloc | apply pw_below_drewN | apply below_drew1 | refine below_set ?_ GE112.out | refine below_set ?_ GE113.out | refine below_set ?_ GE125.out) | exact HB.out)))
                      (case aF => exact (fun _ _ => trivial))
                      (case aO => exact (by (with_reducible repeat (first | apply Kd.R_alloc | apply Kd.R_drewN | apply Kd.R_drew)); exact HO_7.out))
                      (case aS => exact (below_size (by repeat (first | (with_reducible first | exact HB.out | apply below_alloc | apply pw_below_drewN | apply below_drew1 | refine below_set ?_ GE112.out | refine below_set ?_ GE113.out | refine below_set ?_ GE125.out) | exact HB.out))))
                      (case aL => have := LMc36.out; omega)
                      intro v133 w42 ho hb hg hat
                      rw [← Ny132.out] at ho
                      have n0_ := Aside0.mk (blk_grown (g := gb112) (o := .cells #[.int .i64 x113000_1, .int .i64 x113001_1, .int .i64 x113002_1, .int .i64 x113003_1, .int .i64 x113004_1, .int .i64 x113005_1] 41 (0, 0)) (by (with_reducible repeat (first | refine blk_drewN ?_ _ | refine blk_drew ?_ | refine blk_alloc ?_ _)); exact BK112.out) hg (Kd.R_ne HO_7.out BK112.out (by decide)))
                      have n1_ := Aside0.mk (blk_grown (g := gb113) (o := .cells #[.int .i64 x114000_1, .int .i64 x114001_1, .int .i64 x114002_1, .int .i64 x114003_1, .int .i64 x114004_1, .int .i64 x114005_1] 41 (0, 0)) (by (with_reducible repeat (first | refine blk_drewN ?_ _ | refine blk_drew ?_ | refine blk_alloc ?_ _)); exact BK113.out) hg (Kd.R_ne HO_7.out BK113.out (by decide)))
                      have n2_ := Aside0.mk (blk_grown (g := gb125) (o := .cells #[.int .i64 t118, .int .i64 t119, .int .i64 t120, .int .i64 t121, .int .i64 t122, .int .i64 t123] 41 (0, 0)) (by (with_reducible repeat (first | refine blk_drewN ?_ _ | refine blk_drew ?_ | refine blk_alloc ?_ _)); exact BK125.out) hg (Kd.R_ne HO_7.out BK125.out (by decide)))
                      have n3_ := Aside0.mk (hb)
                      have n4_ := Aside0.mk (ho)
                      clear BK112
                      clear BK113
                      clear BK125
                      clear HB
                      clear HO_7
                      have BK112 := n0_
                      have BK113 := n1_
                      have BK125 := n2_
                      have HB := n3_
                      have HO134 := n4_
                      clear n0_ n1_ n2_ n3_ n4_
                      clear ho hb hg hat
                      refine hK.out _ _ ?_
                      clear hK K
                      refine norm_ (a' := ?_) ?_ ?_
                      rotate_left
                      · show Act.put _ (some 45) _ = _
                        simp only [Act.put, List.setIfInBounds_toArray, List.set_cons_zero, List.set_cons_succ, i64_w, i32_w]
                        rfl
                      refine pure_ (i := 10) (N := some 7) (v := ?_) (a' := ?_) #[true, true, true, true, true, true, true, true, true, true, true] rfl rfl (any_of HT_.out (by kernel_rfl)) (fun _ _ _ h => h) (Or.inl ⟨by rfl, ?_⟩) ?_ ?_
                      rotate_left
                      · intro w'
                        go_simp
                        with_reducible rfl
                      rotate_left
                      · simp only [Act.put, List.setIfInBounds_toArray, List.set_cons_zero, List.set_cons_succ, i64_w, i32_w]
                        rfl
                      refine done_ (done_of HT_.out (by kernel_rfl)) ?_
                      try go_wp2
                      have n0_ := Aside0.mk (Kd.R_drew HO134.out)
                      have n1_ := Aside0.mk (blk_drew BK112.out)
                      have n2_ := Aside0.mk (blk_drew BK113.out)
                      have n3_ := Aside0.mk (blk_drew BK125.out)
                      have n4_ := Aside0.mk (below_drew1 HB.out)
                      clear HO134
                      clear BK112
                      clear BK113
                      clear BK125
                      clear HB
                      have HO134 := n0_
                      have BK112 := n1_
                      have BK113 := n2_
                      have BK125 := n3_
                      have HB := n4_
                      clear n0_ n1_ n2_ n3_ n4_
                      refine start_ (n := 5) (S := fun w' => w'.cell? ⟨gb125, 0, none⟩ = some (.int .i64 t118) ∧ w'.cell? ⟨gb125, 1, none⟩ = some (.int .i64 t119) ∧ w'.cell? ⟨gb125, 2, none⟩ = some (.int .i64 t120) ∧ w'.cell? ⟨gb125, 3, none⟩ = some (.int .i64 t121) ∧ w'.cell? ⟨gb125, 4, none⟩ = some (.int .i64 t122) ∧ w'.cell? ⟨gb125, 5, none⟩ = some (.int .i64 t123)) (ds := []) #[false, false, false, false, false] (by kernel_rfl) rfl rfl ⟨(blk_cell BK125.out 0).trans rfl, (blk_cell BK125.out 1).trans rfl, (blk_cell BK125.out 2).trans rfl, (blk_cell BK125.out 3).trans rfl, (blk_cell BK125.out 4).trans rfl, (blk_cell BK125.out 5).trans rfl⟩ (fun hHeld => ?_)
                      generalize w42.drew = w43 at HO134 BK112 BK113 BK125 HB hHeld ⊢
                      refine take_ (i := 0) (N := some 46) (v := ?_) (a' := ?_) #[true, false, false, false, false] rfl rfl (by kernel_rfl) (fun _ _ _ h => h) (Or.inl ⟨by rfl, ?_⟩) hHeld ?_ ?_
                      rotate_left
                      · rintro w' ⟨s0, s1, s2, s3, s4, s5⟩
                        go_simp
                        with_reducible rfl
                      rotate_left
                      · simp only [Act.put, List.setIfInBounds_toArray, List.set_cons_zero, List.set_cons_succ, i64_w, i32_w]
                        rfl
                      refine take_ (i := 1) (N := some 47) (v := ?_) (a' := ?_) #[true, true, false, false, false] rfl rfl (by kernel_rfl) (fun _ _ _ h => h) (Or.inl ⟨by rfl, ?_⟩) hHeld ?_ ?_
                      rotate_left
                      · rintro w' ⟨s0, s1, s2, s3, s4, s5⟩
                        go_simp
                        with_reducible rfl
                      rotate_left
                      · simp only [Act.put, List.setIfInBounds_toArray, List.set_cons_zero, List.set_cons_succ, i64_w, i32_w]
                        rfl
                      refine one_ (i := 2) (N := some 48) #[true, true, true, false, false] rfl rfl (by kernel_rfl) (by decide) (fun K hK => ?_)
                      refine goes_ Try.func59 (by kernel_rfl) rfl #[.agg #[.int .i64 t118, .int .i64 t119, .int .i64 t120, .int .i64 t121, .int .i64 t122, .int .i64 t123]] (by rfl) rfl rfl (by (try simp only [List.map_toArray, List.map_cons, List.map_nil]); first | done | rfl | (simp only [List.length_drop, List.length_take]; rfl)) ?_
                      with_reducible refine (xL5Next.calls t118 t119 t120 t121 t122 t123 t135 _ A37.out).mono ?_
                      rintro e w44 ⟨rfl, hb⟩
                      refine ⟨_, rfl, ?_⟩
                      have n0_ := Aside0.mk (Kd.R_below (by (with_reducible repeat (first | apply Kd.R_alloc | apply Kd.R_drewN | apply Kd.R_drew)); exact HO134.out) hb)
                      have n1_ := Aside0.mk (blk_below (g := gb112) (o := .cells #[.int .i64 x113000_1, .int .i64 x113001_1, .int .i64 x113002_1, .int .i64 x113003_1, .int .i64 x113004_1, .int .i64 x113005_1] 41 (0, 0)) (by (with_reducible repeat (first | refine blk_drewN ?_ _ | refine blk_drew ?_ | refine blk_alloc ?_ _)); exact BK112.out) hb)
                      have n2_ := Aside0.mk (blk_below (g := gb113) (o := .cells #[.int .i64 x114000_1, .int .i64 x114001_1, .int .i64 x114002_1, .int .i64 x114003_1, .int .i64 x114004_1, .int .i64 x114005_1] 41 (0, 0)) (by (with_reducible repeat (first | refine blk_drewN ?_ _ | refine blk_drew ?_ | refine blk_alloc ?_ _)); exact BK113.out) hb)
                      have n3_ := Aside0.mk (blk_below (g := gb125) (o := .cells #[.int .i64 t118, .int .i64 t119, .int .i64 t120, .int .i64 t121, .int .i64 t122, .int .i64 t123] 41 (0, 0)) (by (with_reducible repeat (first | refine blk_drewN ?_ _ | refine blk_drew ?_ | refine blk_alloc ?_ _)); exact BK125.out) hb)
                      have n4_ := Aside0.mk (below_step (by repeat (first | (with_reducible first | exact HB.out | apply below_alloc | apply pw_below_drewN | apply below_drew1 | refine below_set ?_ GE112.out | refine below_set ?_ GE113.out | refine below_set ?_ GE125.out) | exact HB.out)) hb)
                      clear HO134
                      clear BK112
                      clear BK113
                      clear BK125
                      clear HB
                      have HO134 := n0_
                      have BK112 := n1_
                      have BK113 := n2_
                      have BK125 := n3_
                      have HB := n4_
                      clear n0_ n1_ n2_ n3_ n4_
                      (try clear hb)
                      (try clear hb2)
                      (try clear hk)
                      (try clear hi)
                      refine hK.out _ _ ⟨(blk_cell BK125.out 0).trans rfl, (blk_cell BK125.out 1).trans rfl, (blk_cell BK125.out 2).trans rfl, (blk_cell BK125.out 3).trans rfl, (blk_cell BK125.out 4).trans rfl, (blk_cell BK125.out 5).trans rfl⟩ (fun hHeld => ?_)
                      clear hK K
                      refine norm_ (a' := ?_) ?_ ?_
                      rotate_left
                      · show Act.put _ (some 48) _ = _
                        simp only [Act.put, List.setIfInBounds_toArray, List.set_cons_zero, List.set_cons_succ, i64_w, i32_w]
                        rfl
                      refine one_ (i := 3) (N := some 49) #[true, true, true, true, false] rfl rfl (by kernel_rfl) (by decide) (fun K hK => ?_)
                      refine goes_ Try.func60 (by kernel_rfl) rfl #[.agg #[.int .i64 t118, .int .i64 t119, .int .i64 t120, .int .i64 t121, .int .i64 t122, .int .i64 t123], .int .i64 t135] (by rfl) rfl rfl (by (try simp only [List.map_toArray, List.map_cons, List.map_nil]); first | done | rfl | (simp only [List.length_drop, List.length_take]; rfl)) ?_
                      with_reducible refine (xL5Burn.calls t118 t119 t120 t121 t122 t123 t135 t136 t137 t138 t139 t140 t141 _ A38.out).mono ?_
                      rintro e w45 ⟨rfl, hb⟩
                      refine ⟨_, rfl, ?_⟩
                      have n0_ := Aside0.mk (Kd.R_below (by (with_reducible repeat (first | apply Kd.R_alloc | apply Kd.R_drewN | apply Kd.R_drew)); exact HO134.out) hb)
                      have n1_ := Aside0.mk (blk_below (g := gb112) (o := .cells #[.int .i64 x113000_1, .int .i64 x113001_1, .int .i64 x113002_1, .int .i64 x113003_1, .int .i64 x113004_1, .int .i64 x113005_1] 41 (0, 0)) (by (with_reducible repeat (first | refine blk_drewN ?_ _ | refine blk_drew ?_ | refine blk_alloc ?_ _)); exact BK112.out) hb)
                      have n2_ := Aside0.mk (blk_below (g := gb113) (o := .cells #[.int .i64 x114000_1, .int .i64 x114001_1, .int .i64 x114002_1, .int .i64 x114003_1, .int .i64 x114004_1, .int .i64 x114005_1] 41 (0, 0)) (by (with_reducible repeat (first | refine blk_drewN ?_ _ | refine blk_drew ?_ | refine blk_alloc ?_ _)); exact BK113.out) hb)
                      have n3_ := Aside0.mk (blk_below (g := gb125) (o := .cells #[.int .i64 t118, .int .i64 t119, .int .i64 t120, .int .i64 t121, .int .i64 t122, .int .i64 t123] 41 (0, 0)) (by (with_reducible repeat (first | refine blk_drewN ?_ _ | refine blk_drew ?_ | refine blk_alloc ?_ _)); exact BK125.out) hb)
                      have n4_ := Aside0.mk (below_step (by repeat (first | (with_reducible first | exact HB.out | apply below_alloc | apply pw_below_drewN | apply below_drew1 | refine below_set ?_ GE112.out | refine below_set ?_ GE113.out | refine below_set ?_ GE125.out) | exact HB.out)) hb)
                      clear HO134
                      clear BK112
                      clear BK113
                      clear BK125
                      clear HB
                      have HO134 := n0_
                      have BK112 := n1_
                      have BK113 := n2_
                      have BK125 := n3_
                      have HB := n4_
                      clear n0_ n1_ n2_ n3_ n4_
                      (try clear hb)
                      (try clear hb2)
                      (try clear hk)
                      (try clear hi)
                      refine hK.out _ _ ⟨(blk_cell BK125.out 0).trans rfl, (blk_cell BK125.out 1).trans rfl, (blk_cell BK125.out 2).trans rfl, (blk_cell BK125.out 3).trans rfl, (blk_cell BK125.out 4).trans rfl, (blk_cell BK125.out 5).trans rfl⟩ (fun hHeld => ?_)
                      clear hK K
                      refine norm_ (a' := ?_) ?_ ?_
                      rotate_left
                      · show Act.put _ (some 49) _ = _
                        simp only [Act.put, List.setIfInBounds_toArray, List.set_cons_zero, List.set_cons_succ, i64_w, i32_w]
                        rfl
                      refine one_ (i := 4) (N := none) #[true, true, true, true, true] rfl rfl (by kernel_rfl) (by decide) (fun K hK => ?_)
                      have hs46 : w45.cell? ⟨gb112, 0, none⟩ = some (.int .i64 x113000_1) := (blk_cell BK112.out 0).trans rfl
                      have hfs46 := blk_frozen BK112.out 0
                      have hns46_1 := NB113_112.out
                      have hns46_2 := NB125_112.out
                      have hms46_1 := NB112_113.out
                      have hms46_2 := NB112_125.out
                      have hs47 : w45.cell? ⟨gb112, 1, none⟩ = some (.int .i64 x113001_1) := (blk_cell BK112.out 1).trans rfl
                      have hfs47 := blk_frozen BK112.out 1
                      have hns47_1 := NB113_112.out
                      have hns47_2 := NB125_112.out
                      have hms47_1 := NB112_113.out
                      have hms47_2 := NB112_125.out
                      have hs48 : w45.cell? ⟨gb112, 2, none⟩ = some (.int .i64 x113002_1) := (blk_cell BK112.out 2).trans rfl
                      have hfs48 := blk_frozen BK112.out 2
                      have hns48_1 := NB113_112.out
                      have hns48_2 := NB125_112.out
                      have hms48_1 := NB112_113.out
                      have hms48_2 := NB112_125.out
                      have hs49 : w45.cell? ⟨gb112, 3, none⟩ = some (.int .i64 x113003_1) := (blk_cell BK112.out 3).trans rfl
                      have hfs49 := blk_frozen BK112.out 3
                      have hns49_1 := NB113_112.out
                      have hns49_2 := NB125_112.out
                      have hms49_1 := NB112_113.out
                      have hms49_2 := NB112_125.out
                      have hs50 : w45.cell? ⟨gb112, 4, none⟩ = some (.int .i64 x113004_1) := (blk_cell BK112.out 4).trans rfl
                      have hfs50 := blk_frozen BK112.out 4
                      have hns50_1 := NB113_112.out
                      have hns50_2 := NB125_112.out
                      have hms50_1 := NB112_113.out
                      have hms50_2 := NB112_125.out
                      have hs51 : w45.cell? ⟨gb112, 5, none⟩ = some (.int .i64 x113005_1) := (blk_cell BK112.out 5).trans rfl
                      have hfs51 := blk_frozen BK112.out 5
                      have hns51_1 := NB113_112.out
                      have hns51_2 := NB125_112.out
                      have hms51_1 := NB112_113.out
                      have hms51_2 := NB112_125.out
                      refine skip_ (w1 := ?_) (by rfl) rfl ?_ ?_
                      rotate_left
                      · go_simp
                        rfl
                      refine hK.out _ _ ⟨((cell_far (p := ⟨gb112, _, none⟩) NB125_112.out _).trans (((cell_far (p := ⟨gb112, _, none⟩) NB125_112.out _).trans (((cell_far (p := ⟨gb112, _, none⟩) NB125_112.out _).trans (((cell_far (p := ⟨gb112, _, none⟩) NB125_112.out _).trans (((cell_far (p := ⟨gb112, _, none⟩) NB125_112.out _).trans (((cell_far (p := ⟨gb112, _, none⟩) NB125_112.out _).trans (hHeld.1)))))))))))), ((cell_far (p := ⟨gb112, _, none⟩) NB125_112.out _).trans (((cell_far (p := ⟨gb112, _, none⟩) NB125_112.out _).trans (((cell_far (p := ⟨gb112, _, none⟩) NB125_112.out _).trans (((cell_far (p := ⟨gb112, _, none⟩) NB125_112.out _).trans (((cell_far (p := ⟨gb112, _, none⟩) NB125_112.out _).trans (((cell_far (p := ⟨gb112, _, none⟩) NB125_112.out _).trans (hHeld.2.1)))))))))))), ((cell_far (p := ⟨gb112, _, none⟩) NB125_112.out _).trans (((cell_far (p := ⟨gb112, _, none⟩) NB125_112.out _).trans (((cell_far (p := ⟨gb112, _, none⟩) NB125_112.out _).trans (((cell_far (p := ⟨gb112, _, none⟩) NB125_112.out _).trans (((cell_far (p := ⟨gb112, _, none⟩) NB125_112.out _).trans (((cell_far (p := ⟨gb112, _, none⟩) NB125_112.out _).trans (hHeld.2.2.1)))))))))))), ((cell_far (p := ⟨gb112, _, none⟩) NB125_112.out _).trans (((cell_far (p := ⟨gb112, _, none⟩) NB125_112.out _).trans (((cell_far (p := ⟨gb112, _, none⟩) NB125_112.out _).trans (((cell_far (p := ⟨gb112, _, none⟩) NB125_112.out _).trans (((cell_far (p := ⟨gb112, _, none⟩) NB125_112.out _).trans (((cell_far (p := ⟨gb112, _, none⟩) NB125_112.out _).trans (hHeld.2.2.2.1)))))))))))), ((cell_far (p := ⟨gb112, _, none⟩) NB125_112.out _).trans (((cell_far (p := ⟨gb112, _, none⟩) NB125_112.out _).trans (((cell_far (p := ⟨gb112, _, none⟩) NB125_112.out _).trans (((cell_far (p := ⟨gb112, _, none⟩) NB125_112.out _).trans (((cell_far (p := ⟨gb112, _, none⟩) NB125_112.out _).trans (((cell_far (p := ⟨gb112, _, none⟩) NB125_112.out _).trans (hHeld.2.2.2.2.1)))))))))))), ((cell_far (p := ⟨gb112, _, none⟩) NB125_112.out _).trans (((cell_far (p := ⟨gb112, _, none⟩) NB125_112.out _).trans (((cell_far (p := ⟨gb112, _, none⟩) NB125_112.out _).trans (((cell_far (p := ⟨gb112, _, none⟩) NB125_112.out _).trans (((cell_far (p := ⟨gb112, _, none⟩) NB125_112.out _).trans (((cell_far (p := ⟨gb112, _, none⟩) NB125_112.out _).trans (hHeld.2.2.2.2.2))))))))))))⟩ (fun hHeld => ?_)
                      clear hK K
                      refine done_ (by kernel_rfl) ?_
                      try go_wp2
                      go_roundg kj9
                      case measure => have := HK1.out; have := HJ9.out; omega
                      case rel => exact ⟨(y132), (wrap64 (x8_1 + 1)), (t136), (t137), (t138), (t139), (t140), (t141), (x114000_1), (x114001_1), (x114002_1), (x114003_1), (x114004_1), (x114005_1), (by first | rfl | (simp; done) | (simp [*]; done)), H', ⟨by have := HK1.out; have := HJ9.out; omega⟩, ⟨by (with_reducible repeat (first | apply Kd.R_alloc | apply Kd.R_drewN | apply Kd.R_drew)); exact Kd.R_mono (Kd.R_far (p := ⟨gb112, 5, none⟩) (Kd.R_far (p := ⟨gb112, 4, none⟩) (Kd.R_far (p := ⟨gb112, 3, none⟩) (Kd.R_far (p := ⟨gb112, 2, none⟩) (Kd.R_far (p := ⟨gb112, 1, none⟩) (Kd.R_far (p := ⟨gb112, 0, none⟩) (Kd.R_types HO134.out BK112.out (by decide)) (fun _ hk => hk.2) (.int .i64 t136)) (fun _ hk => hk.2) (.int .i64 t137)) (fun _ hk => hk.2) (.int .i64 t138)) (fun _ hk => hk.2) (.int .i64 t139)) (fun _ hk => hk.2) (.int .i64 t140)) (fun _ hk => hk.2) (.int .i64 t141)) (fun _ hk => trivial)⟩, ⟨by (with_reducible repeat (first | refine blk_drewN ?_ _ | refine blk_drew ?_ | refine blk_alloc ?_ _)); refine blk_put (cs := #[.int .i64 t136, .int .i64 t137, .int .i64 t138, .int .i64 t139, .int .i64 t140, .int .i64 x113005_1]) ?_ 5 _ rfl; (with_reducible repeat (first | refine blk_drewN ?_ _ | refine blk_drew ?_ | refine blk_alloc ?_ _)); refine blk_put (cs := #[.int .i64 t136, .int .i64 t137, .int .i64 t138, .int .i64 t139, .int .i64 x113004_1, .int .i64 x113005_1]) ?_ 4 _ rfl; (with_reducible repeat (first | refine blk_drewN ?_ _ | refine blk_drew ?_ | refine blk_alloc ?_ _)); refine blk_put (cs := #[.int .i64 t136, .int .i64 t137, .int .i64 t138, .int .i64 x113003_1, .int .i64 x113004_1, .int .i64 x113005_1]) ?_ 3 _ rfl; (with_reducible repeat (first | refine blk_drewN ?_ _ | refine blk_drew ?_ | refine blk_alloc ?_ _)); refine blk_put (cs := #[.int .i64 t136, .int .i64 t137, .int .i64 x113002_1, .int .i64 x113003_1, .int .i64 x113004_1, .int .i64 x113005_1]) ?_ 2 _ rfl; (with_reducible repeat (first | refine blk_drewN ?_ _ | refine blk_drew ?_ | refine blk_alloc ?_ _)); refine blk_put (cs := #[.int .i64 t136, .int .i64 x113001_1, .int .i64 x113002_1, .int .i64 x113003_1, .int .i64 x113004_1, .int .i64 x113005_1]) ?_ 1 _ rfl; (with_reducible repeat (first | refine blk_drewN ?_ _ | refine blk_drew ?_ | refine blk_alloc ?_ _)); refine blk_put (cs := #[.int .i64 x113000_1, .int .i64 x113001_1, .int .i64 x113002_1, .int .i64 x113003_1, .int .i64 x113004_1, .int .i64 x113005_1]) ?_ 0 _ rfl; (with_reducible repeat (first | refine blk_drewN ?_ _ | refine blk_drew ?_ | refine blk_alloc ?_ _)); exact BK112.out⟩, ⟨by (with_reducible repeat (first | refine blk_drewN ?_ _ | refine blk_drew ?_ | refine blk_alloc ?_ _)); refine blk_far ?_ NB113_112.out _; (with_reducible repeat (first | refine blk_drewN ?_ _ | refine blk_drew ?_ | refine blk_alloc ?_ _)); refine blk_far ?_ NB113_112.out _; (with_reducible repeat (first | refine blk_drewN ?_ _ | refine blk_drew ?_ | refine blk_alloc ?_ _)); refine blk_far ?_ NB113_112.out _; (with_reducible repeat (first | refine blk_drewN ?_ _ | refine blk_drew ?_ | refine blk_alloc ?_ _)); refine blk_far ?_ NB113_112.out _; (with_reducible repeat (first | refine blk_drewN ?_ _ | refine blk_drew ?_ | refine blk_alloc ?_ _)); refine blk_far ?_ NB113_112.out _; (with_reducible repeat (first | refine blk_drewN ?_ _ | refine blk_drew ?_ | refine blk_alloc ?_ _)); refine blk_far ?_ NB113_112.out _; (with_reducible repeat (first | refine blk_drewN ?_ _ | refine blk_drew ?_ | refine blk_alloc ?_ _)); exact BK113.out⟩, ⟨by repeat (first | (with_reducible first | exact HB.out | apply below_alloc | apply pw_below_drewN | apply below_drew1 | refine below_set ?_ GE112.out | refine below_set ?_ GE113.out | refine below_set ?_ GE125.out) | exact HB.out)⟩⟩
                    · rw [if_neg c36] at H
                      exact absurd H (by simp)
                  · rw [if_neg c34] at H
                    exact absurd H (by simp)
                · rw [if_neg c33] at H
                  exact absurd H (by simp)
        · rw [if_neg c8] at H
          exact absurd H (by simp)
      · rw [if_neg c7] at H
        have c7b0 : decide (x8_1 < (l1.length : Int)) = false := decide_eq_false c7
        clear c7
        simp only [Option.some.injEq, Prod.mk.injEq] at H
        obtain ⟨rfl, rfl, rfl, rfl, rfl, rfl, rfl, rfl⟩ := H
        try go_wp2
        have n0_ := Aside0.mk (Kd.R_drew HO_7.out)
        have n1_ := Aside0.mk (blk_drew BK112.out)
        have n2_ := Aside0.mk (blk_drew BK113.out)
        have n3_ := Aside0.mk (below_drew1 HB.out)
        clear HO_7
        clear BK112
        clear BK113
        clear HB
        have HO_7 := n0_
        have BK112 := n1_
        have BK113 := n2_
        have HB := n3_
        clear n0_ n1_ n2_ n3_
        refine start_ (n := 5) (S := fun w' => w'.cell? ⟨gb112, 0, none⟩ = some (.int .i64 x113000_1) ∧ w'.cell? ⟨gb112, 1, none⟩ = some (.int .i64 x113001_1) ∧ w'.cell? ⟨gb112, 2, none⟩ = some (.int .i64 x113002_1) ∧ w'.cell? ⟨gb112, 3, none⟩ = some (.int .i64 x113003_1) ∧ w'.cell? ⟨gb112, 4, none⟩ = some (.int .i64 x113004_1) ∧ w'.cell? ⟨gb112, 5, none⟩ = some (.int .i64 x113005_1)) (ds := []) #[false, false, false, false, false] (by kernel_rfl) rfl rfl ⟨(blk_cell BK112.out 0).trans rfl, (blk_cell BK112.out 1).trans rfl, (blk_cell BK112.out 2).trans rfl, (blk_cell BK112.out 3).trans rfl, (blk_cell BK112.out 4).trans rfl, (blk_cell BK112.out 5).trans rfl⟩ (fun hHeld => ?_)
        generalize wr.drew = w52 at HO_7 BK112 BK113 HB hHeld ⊢
        refine pure_ (i := 0) (N := some 50) (v := ?_) (a' := ?_) #[true, false, false, false, false] rfl rfl (by kernel_rfl) (fun _ _ _ h => h) (Or.inl ⟨by rfl, ?_⟩) ?_ ?_
        rotate_left
        · intro w'
          go_simp
          with_reducible rfl
        rotate_left
        · simp only [Act.put, List.setIfInBounds_toArray, List.set_cons_zero, List.set_cons_succ, i64_w, i32_w]
          rfl
        refine pure_ (i := 2) (N := some 4) (v := ?_) (a' := ?_) #[true, false, true, false, false] rfl rfl (by kernel_rfl) (fun _ _ _ h => h) (Or.inl ⟨by rfl, ?_⟩) ?_ ?_
        rotate_left
        · intro w'
          go_simp
          with_reducible rfl
        rotate_left
        · simp only [Act.put, List.setIfInBounds_toArray, List.set_cons_zero, List.set_cons_succ, i64_w, i32_w]
          rfl
        refine take_ (i := 1) (N := some 51) (v := ?_) (a' := ?_) #[true, true, true, false, false] rfl rfl (by kernel_rfl) (fun _ _ _ h => h) (Or.inl ⟨by rfl, ?_⟩) hHeld ?_ ?_
        rotate_left
        · rintro w' ⟨s0, s1, s2, s3, s4, s5⟩
          go_simp
          with_reducible rfl
        rotate_left
        · simp only [Act.put, List.setIfInBounds_toArray, List.set_cons_zero, List.set_cons_succ, i64_w, i32_w]
          rfl
        refine one_ (i := 3) (N := none) #[true, true, true, true, false] rfl rfl (by kernel_rfl) (by decide) (fun K hK => ?_)
        have hs53 : w52.cell? ⟨gb113, 0, none⟩ = some (.int .i64 x114000_1) := (blk_cell BK113.out 0).trans rfl
        have hfs53 := blk_frozen BK113.out 0
        have hns53_0 := NB112_113.out
        have hms53_0 := NB113_112.out
        have hs54 : w52.cell? ⟨gb113, 1, none⟩ = some (.int .i64 x114001_1) := (blk_cell BK113.out 1).trans rfl
        have hfs54 := blk_frozen BK113.out 1
        have hns54_0 := NB112_113.out
        have hms54_0 := NB113_112.out
        have hs55 : w52.cell? ⟨gb113, 2, none⟩ = some (.int .i64 x114002_1) := (blk_cell BK113.out 2).trans rfl
        have hfs55 := blk_frozen BK113.out 2
        have hns55_0 := NB112_113.out
        have hms55_0 := NB113_112.out
        have hs56 : w52.cell? ⟨gb113, 3, none⟩ = some (.int .i64 x114003_1) := (blk_cell BK113.out 3).trans rfl
        have hfs56 := blk_frozen BK113.out 3
        have hns56_0 := NB112_113.out
        have hms56_0 := NB113_112.out
        have hs57 : w52.cell? ⟨gb113, 4, none⟩ = some (.int .i64 x114004_1) := (blk_cell BK113.out 4).trans rfl
        have hfs57 := blk_frozen BK113.out 4
        have hns57_0 := NB112_113.out
        have hms57_0 := NB113_112.out
        have hs58 : w52.cell? ⟨gb113, 5, none⟩ = some (.int .i64 x114005_1) := (blk_cell BK113.out 5).trans rfl
        have hfs58 := blk_frozen BK113.out 5
        have hns58_0 := NB112_113.out
        have hms58_0 := NB113_112.out
        refine skip_ (w1 := ?_) (by rfl) rfl ?_ ?_
        rotate_left
        · go_simp
          rfl
        refine hK.out _ _ ⟨((cell_far (p := ⟨gb113, _, none⟩) NB112_113.out _).trans (((cell_far (p := ⟨gb113, _, none⟩) NB112_113.out _).trans (((cell_far (p := ⟨gb113, _, none⟩) NB112_113.out _).trans (((cell_far (p := ⟨gb113, _, none⟩) NB112_113.out _).trans (((cell_far (p := ⟨gb113, _, none⟩) NB112_113.out _).trans (((cell_far (p := ⟨gb113, _, none⟩) NB112_113.out _).trans (hHeld.1)))))))))))), ((cell_far (p := ⟨gb113, _, none⟩) NB112_113.out _).trans (((cell_far (p := ⟨gb113, _, none⟩) NB112_113.out _).trans (((cell_far (p := ⟨gb113, _, none⟩) NB112_113.out _).trans (((cell_far (p := ⟨gb113, _, none⟩) NB112_113.out _).trans (((cell_far (p := ⟨gb113, _, none⟩) NB112_113.out _).trans (((cell_far (p := ⟨gb113, _, none⟩) NB112_113.out _).trans (hHeld.2.1)))))))))))), ((cell_far (p := ⟨gb113, _, none⟩) NB112_113.out _).trans (((cell_far (p := ⟨gb113, _, none⟩) NB112_113.out _).trans (((cell_far (p := ⟨gb113, _, none⟩) NB112_113.out _).trans (((cell_far (p := ⟨gb113, _, none⟩) NB112_113.out _).trans (((cell_far (p := ⟨gb113, _, none⟩) NB112_113.out _).trans (((cell_far (p := ⟨gb113, _, none⟩) NB112_113.out _).trans (hHeld.2.2.1)))))))))))), ((cell_far (p := ⟨gb113, _, none⟩) NB112_113.out _).trans (((cell_far (p := ⟨gb113, _, none⟩) NB112_113.out _).trans (((cell_far (p := ⟨gb113, _, none⟩) NB112_113.out _).trans (((cell_far (p := ⟨gb113, _, none⟩) NB112_113.out _).trans (((cell_far (p := ⟨gb113, _, none⟩) NB112_113.out _).trans (((cell_far (p := ⟨gb113, _, none⟩) NB112_113.out _).trans (hHeld.2.2.2.1)))))))))))), ((cell_far (p := ⟨gb113, _, none⟩) NB112_113.out _).trans (((cell_far (p := ⟨gb113, _, none⟩) NB112_113.out _).trans (((cell_far (p := ⟨gb113, _, none⟩) NB112_113.out _).trans (((cell_far (p := ⟨gb113, _, none⟩) NB112_113.out _).trans (((cell_far (p := ⟨gb113, _, none⟩) NB112_113.out _).trans (((cell_far (p := ⟨gb113, _, none⟩) NB112_113.out _).trans (hHeld.2.2.2.2.1)))))))))))), ((cell_far (p := ⟨gb113, _, none⟩) NB112_113.out _).trans (((cell_far (p := ⟨gb113, _, none⟩) NB112_113.out _).trans (((cell_far (p := ⟨gb113, _, none⟩) NB112_113.out _).trans (((cell_far (p := ⟨gb113, _, none⟩) NB112_113.out _).trans (((cell_far (p := ⟨gb113, _, none⟩) NB112_113.out _).trans (((cell_far (p := ⟨gb113, _, none⟩) NB112_113.out _).trans (hHeld.2.2.2.2.2))))))))))))⟩ (fun hHeld => ?_)
        clear hK K
        refine pure_ (i := 4) (N := some 6) (v := ?_) (a' := ?_) #[true, true, true, true, true] rfl rfl (by kernel_rfl) (fun _ _ _ h => h) (Or.inl ⟨by rfl, ?_⟩) ?_ ?_
        rotate_left
        · intro w'
          go_simp
          with_reducible rfl
        rotate_left
        · simp only [Act.put, List.setIfInBounds_toArray, List.set_cons_zero, List.set_cons_succ, i64_w, i32_w]
          rfl
        refine done_ (by kernel_rfl) ?_
        try go_wp2
        refine bodyPost_ret (results_list (rs := [.tmp 4, .cell 5 41, .tmp 6]) rfl (by simp) (.tmp (.cell gb113 41 #[.int .i64 x113000_1, .int .i64 x113001_1, .int .i64 x113002_1, .int .i64 x113003_1, .int .i64 x113004_1, .int .i64 x113005_1] (0, 0) _ rfl (by (with_reducible repeat (first | refine blk_drewN ?_ _ | refine blk_drew ?_ | refine blk_alloc ?_ _)); refine blk_put (cs := #[.int .i64 x113000_1, .int .i64 x113001_1, .int .i64 x113002_1, .int .i64 x113003_1, .int .i64 x113004_1, .int .i64 x114005_1]) ?_ 5 _ rfl; (with_reducible repeat (first | refine blk_drewN ?_ _ | refine blk_drew ?_ | refine blk_alloc ?_ _)); refine blk_put (cs := #[.int .i64 x113000_1, .int .i64 x113001_1, .int .i64 x113002_1, .int .i64 x113003_1, .int .i64 x114004_1, .int .i64 x114005_1]) ?_ 4 _ rfl; (with_reducible repeat (first | refine blk_drewN ?_ _ | refine blk_drew ?_ | refine blk_alloc ?_ _)); refine blk_put (cs := #[.int .i64 x113000_1, .int .i64 x113001_1, .int .i64 x113002_1, .int .i64 x114003_1, .int .i64 x114004_1, .int .i64 x114005_1]) ?_ 3 _ rfl; (with_reducible repeat (first | refine blk_drewN ?_ _ | refine blk_drew ?_ | refine blk_alloc ?_ _)); refine blk_put (cs := #[.int .i64 x113000_1, .int .i64 x113001_1, .int .i64 x114002_1, .int .i64 x114003_1, .int .i64 x114004_1, .int .i64 x114005_1]) ?_ 2 _ rfl; (with_reducible repeat (first | refine blk_drewN ?_ _ | refine blk_drew ?_ | refine blk_alloc ?_ _)); refine blk_put (cs := #[.int .i64 x113000_1, .int .i64 x114001_1, .int .i64 x114002_1, .int .i64 x114003_1, .int .i64 x114004_1, .int .i64 x114005_1]) ?_ 1 _ rfl; (with_reducible repeat (first | refine blk_drewN ?_ _ | refine blk_drew ?_ | refine blk_alloc ?_ _)); refine blk_put (cs := #[.int .i64 x114000_1, .int .i64 x114001_1, .int .i64 x114002_1, .int .i64 x114003_1, .int .i64 x114004_1, .int .i64 x114005_1]) ?_ 0 _ rfl; (with_reducible repeat (first | refine blk_drewN ?_ _ | refine blk_drew ?_ | refine blk_alloc ?_ _)); exact BK113.out) Try.underlying41 rfl (by kernel_rfl) (.tmp .nil)))) rfl ?_
        exact ⟨_, by first | rfl | (simp [errW_none, errW_some] <;> rfl) | (simp [*, errW_none, errW_some] <;> rfl), by (with_reducible repeat (first | apply Kd.R_alloc | apply Kd.R_drewN | apply Kd.R_drew)); exact Kd.R_mono (Kd.R_far (p := ⟨gb113, 5, none⟩) (Kd.R_far (p := ⟨gb113, 4, none⟩) (Kd.R_far (p := ⟨gb113, 3, none⟩) (Kd.R_far (p := ⟨gb113, 2, none⟩) (Kd.R_far (p := ⟨gb113, 1, none⟩) (Kd.R_far (p := ⟨gb113, 0, none⟩) (Kd.R_types HO_7.out BK113.out (by decide)) (fun _ hk => hk.2) (.int .i64 x113000_1)) (fun _ hk => hk.2) (.int .i64 x113001_1)) (fun _ hk => hk.2) (.int .i64 x113002_1)) (fun _ hk => hk.2) (.int .i64 x113003_1)) (fun _ hk => hk.2) (.int .i64 x113004_1)) (fun _ hk => hk.2) (.int .i64 x113005_1)) (fun _ hk => trivial), by repeat (first | (with_reducible first | exact HB.out | apply below_alloc | apply pw_below_drewN | apply below_drew1 | refine below_set ?_ GE112.out | refine below_set ?_ GE113.out) | exact HB.out)⟩

end Go.Proofs.Ytdbnajaimodnmaa.QRo
