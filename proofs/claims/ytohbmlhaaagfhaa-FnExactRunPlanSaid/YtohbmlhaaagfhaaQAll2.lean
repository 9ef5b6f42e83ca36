/- Contracts of functions, written by a program of this repo out of the translation. No statement of the seat is proved here. -/
import Derived.Test.YtohbmlhaaagfhaaQAll0
import Derived.Test.YtohbmlhaaagfhaaExt
import Derived.Test.YtohbmlhaaagfhaaPlan0
import Derived.Test.YtohbmlhaaagfhaaRun
namespace Go.Proofs.Ytohbmlhaaagfhaa.QAll
open Go.RowKit Go.Proofs.YtohbmlhaaagfhaaW.PrintWords Go.Proofs.YtohbmlhaaagfhaaW.PrintLast Go.Proofs.YtohbmlhaaagfhaaW.PrintMore
attribute [local go_sem] max2_int min2_int max_two min_two max_three min_three max_four min_four   -- for this text's walks alone
set_option linter.unusedVariables false
set_option linter.unusedSimpArgs false

/-! ### spec_l2Moments: function 31 -/
def spec_l2Moments.l0 : Nat → List Int → List Int → Int → Int → Int → Int → Int → Int → Int → Int → Int → Option (List Int × Int × Int × Int × Int)
  | 0, _, _, _, _, _, _, _, _, _, _, _ => none
  | k + 1, x2, x8, x9, x105000, x105001, x105002, x105003, x106000, x106001, x106002, x106003 => if x9 < (x2.length : Int) then (if 0 ≤ x9 then ((xL2Step.f x105000 x105001 x105002 x105003 x106000 x106001 x106002 x106003 (rd x2 x9)).bind fun bt111 => (if bt111.2.2.2.2 = 0 then (some (x8, x106000, x106001, x106002, x106003)) else (if x9 < (x8.length : Int) then (if x8.length < 17592186044416 then (spec_l2Moments.l0 k x2 (x8 ++ [wrap64 ((rd x8 x9) + bt111.2.2.2.2)]) (wrap64 (x9 + 1)) x105000 x105001 x105002 x105003 bt111.1 bt111.2.1 bt111.2.2.1 bt111.2.2.2.1) else (none)) else (none)))) else (none)) else (some (x8, x106000, x106001, x106002, x106003))
def spec_l2Moments.f (k : Nat) (a0_0 : Int) (a0_1 : Int) (a0_2 : Int) (a0_3 : Int) (a1_0 : Int) (a1_1 : Int) (a1_2 : Int) (a1_3 : Int) (l2 : List Int) : Option (List Int × Int × Int × Int × Int) := spec_l2Moments.l0 k l2 (([0] : List Int)) 0 a0_0 a0_1 a0_2 a0_3 a1_0 a1_1 a1_2 a1_3
theorem spec_l2Moments.mono_l : ∀ k, (∀ y0 y1 y2 y3 y4 y5 y6 y7 y8 y9 y10, LeO (spec_l2Moments.l0 k y0 y1 y2 y3 y4 y5 y6 y7 y8 y9 y10) (spec_l2Moments.l0 (k + 1) y0 y1 y2 y3 y4 y5 y6 y7 y8 y9 y10))
  | 0 => fun _ _ _ _ _ _ _ _ _ _ _ r h => by simp [spec_l2Moments.l0] at h
  | k + 1 => by
    have ih0 := spec_l2Moments.mono_l k
    · intro y0 y1 y2 y3 y4 y5 y6 y7 y8 y9 y10
      unfold spec_l2Moments.l0
      repeat' first
      | (with_reducible exact ih0 _ _ _ _ _ _ _ _ _ _ _)
      | (with_reducible exact LeO.refl _)
      | (with_reducible exact LeO.none _)
      | (with_reducible refine LeO.ite ?_ ?_)
      | (with_reducible refine LeO.bind ?_ (fun _ => ?_))
      | exact ih0 _ _ _ _ _ _ _ _ _ _ _
      | exact LeO.none _
      | refine LeO.ite ?_ ?_
      | refine LeO.bind ?_ (fun _ => ?_)
theorem spec_l2Moments.mono : ∀ a0 a1 a2 a3 a4 a5 a6 a7 a8 k, LeO (spec_l2Moments.f k a0 a1 a2 a3 a4 a5 a6 a7 a8) (spec_l2Moments.f (k + 1) a0 a1 a2 a3 a4 a5 a6 a7 a8) := by
  intro a0 a1 a2 a3 a4 a5 a6 a7 a8 k
  have ih0 := spec_l2Moments.mono_l k
  unfold spec_l2Moments.f
  repeat' first
      | (with_reducible exact ih0 _ _ _ _ _ _ _ _ _ _ _)
      | (with_reducible exact LeO.refl _)
      | (with_reducible exact LeO.none _)
      | (with_reducible refine LeO.ite ?_ ?_)
      | (with_reducible refine LeO.bind ?_ (fun _ => ?_))
      | exact ih0 _ _ _ _ _ _ _ _ _ _ _
      | exact LeO.none _
      | refine LeO.ite ?_ ?_
      | refine LeO.bind ?_ (fun _ => ?_)
def spec_l2Moments.T5 : Bool × List (List Nat × List Nat) := (true, [([], []), ([], []), ([], []), ([], []), ([2, 3], [2, 3]), ([4], [4]), ([0, 1, 5], [0, 1, 5]), ([6], [6]), ([7], [7]), ([7], [7]), ([], []), ([10, 8, 6, 0, 1, 2, 3, 4, 5, 6, 7, 8, 10], [8, 10]), ([9, 11, 0, 1, 2, 3, 4, 5, 6, 7, 8, 9, 10, 11], [9])])
def spec_l2Moments.B5 : List Nat := [0, 0, 0, 0, 12, 28, 63, 127, 255, 255, 0, 1535, 4095]
theorem spec_l2Moments.tab5 : rtab .any (opsOf Try.f31 5) = spec_l2Moments.T5 := by kernel_rfl
theorem spec_l2Moments.bits5 : waitsOk spec_l2Moments.T5.2 spec_l2Moments.B5 = true := by kernel_rfl
set_option maxHeartbeats 8000000 in
set_option maxRecDepth 100000 in
theorem spec_l2Moments.calls (k : Nat) (a0_0 : Int) (a0_1 : Int) (a0_2 : Int) (a0_3 : Int) (a1_0 : Int) (a1_1 : Int) (a1_2 : Int) (a1_3 : Int) (A2 : Option Addr) (c2 : Nat) (l2 : List Int) (r1 : List Int) (r2 : Int) (r3 : Int) (r4 : Int) (r5 : Int) (w : World) (hr2 : Kd.C (Kd.int .i64) w A2 l2.length l2) (hc2 : l2.length ≤ c2) (h : spec_l2Moments.f k a0_0 a0_1 a0_2 a0_3 a1_0 a1_1 a1_2 a1_3 l2 = some (r1, r2, r3, r4, r5)) :
    Calls Try.prog 31 #[.agg #[.int .i64 a0_0, .int .i64 a0_1, .int .i64 a0_2, .int .i64 a0_3], .agg #[.int .i64 a1_0, .int .i64 a1_1, .int .i64 a1_2, .int .i64 a1_3], .slice A2 l2.length c2] w fun e w' => ∃ v0_ : Value, e = .returned (.tuple #[v0_, .agg #[.int .i64 r2, .int .i64 r3, .int .i64 r4, .int .i64 r5]]) ∧ Kd.R (Kd.int .i64) 3 w' w.heap.size (fun _ => True) v0_ r1 ∧ Below w.heap.size w w' := by
  have hu28 := Try.underlying28
  have hu22 := Try.underlying22
  have HR2 := Aside0.mk hr2
  have HC2 := Aside0.mk hc2
  clear hr2 hc2
  have HB := Aside0.mk (Below.refl w.heap.size w)
  have H : (spec_l2Moments.l0 k l2 (([0] : List Int)) 0 a0_0 a0_1 a0_2 a0_3 a1_0 a1_1 a1_2 a1_3) = some (r1, r2, r3, r4, r5) := h
  clear h
  obtain ⟨y107, hy107⟩ : ∃ y_ : List Int, y_ = (([0] : List Int)) := ⟨_, rfl⟩
  replace H : (spec_l2Moments.l0 k l2 y107 0 a0_0 a0_1 a0_2 a0_3 a1_0 a1_1 a1_2 a1_3) = some (r1, r2, r3, r4, r5) := by first | (rw [hy107]; with_reducible exact H) | (have H2_ := (Option.bind_some _ _).symm.trans H; rw [hy107]; with_reducible exact H2_) | (have H2_ := (Option.bind_some _ _).symm.trans H; with_reducible exact H2_) | with_reducible exact H | (rw [hy107]; exact H) | exact H
  have Ny107 := Aside0.mk hy107
  clear hy107
  have H' := Aside0.mk H
  clear H
  go_enter Try.func31, Try.ntmps31
  go_wp2_with (first | ((with_reducible refine gate_dst (N := 3) rfl ?_); refine box_event ?hg (N := 3) ?hd (cs := #[.int .i64 a0_0, .int .i64 a0_1, .int .i64 a0_2, .int .i64 a0_3]) (t := 28) ?hr ?_; (case hd => rfl); (case hg => rfl); (case hr => first | (go_simp; done) | (go_simp; rfl)); intro gb104 hg w4 hbox hb; have n0_ := Aside0.mk (below_step (by repeat (first | (with_reducible first | exact HB.out | apply below_alloc | apply pw_below_drewN | apply below_drew1) | exact HB.out)) hb); have n1_ := Aside0.mk (hbox); have n2_ := Aside0.mk ((by rw [hg]; exact (below_size (by repeat (first | (with_reducible first | exact HB.out | apply below_alloc | apply pw_below_drewN | apply below_drew1) | exact HB.out))) : w.heap.size ≤ gb104)); have n3_ := Aside0.mk ((by rw [hg]; exact (below_size (by repeat (first | (with_reducible first | exact HB.out | apply below_alloc | apply pw_below_drewN | apply below_drew1) | exact HB.out))) : w.heap.size ≤ gb104)); clear HB; have HB := n0_; have BK104 := n1_; have GW104 := n2_; have GE104 := n3_; clear n0_ n1_ n2_ n3_; clear hb hbox hg) | ((with_reducible refine gate_dst (N := 4) rfl ?_); refine box_event ?hg (N := 4) ?hd (cs := #[.int .i64 a1_0, .int .i64 a1_1, .int .i64 a1_2, .int .i64 a1_3]) (t := 22) ?hr ?_; (case hd => rfl); (case hg => rfl); (case hr => first | (go_simp; done) | (go_simp; rfl)); intro gb105 hg w5 hbox hb; have n0_ := Aside0.mk (blk_below (g := gb104) (o := .cells #[.int .i64 a0_0, .int .i64 a0_1, .int .i64 a0_2, .int .i64 a0_3] 28 (0, 0)) (by (with_reducible repeat (first | refine blk_drewN ?_ _ | refine blk_drew ?_ | refine blk_alloc ?_ _)); exact BK104.out) hb); have n1_ := Aside0.mk (below_step (by repeat (first | (with_reducible first | exact HB.out | apply below_alloc | apply pw_below_drewN | apply below_drew1 | refine below_set ?_ GE104.out) | exact HB.out)) hb); have n2_ := Aside0.mk (hbox); have n3_ := Aside0.mk ((by rw [hg]; exact (below_size (by repeat (first | (with_reducible first | exact HB.out | apply below_alloc | apply pw_below_drewN | apply below_drew1 | refine below_set ?_ GE104.out) | exact HB.out))) : w.heap.size ≤ gb105)); have n4_ := Aside0.mk ((by rw [hg]; exact (below_size (by repeat (first | (with_reducible first | exact HB.out | apply below_alloc | apply pw_below_drewN | apply below_drew1 | refine below_set ?_ GE104.out) | exact HB.out))) : w.heap.size ≤ gb105)); have n5_ := Aside0.mk ((by rw [hg]; exact Nat.ne_of_lt (blk_lt (g := gb104) (o := .cells #[.int .i64 a0_0, .int .i64 a0_1, .int .i64 a0_2, .int .i64 a0_3] 28 (0, 0)) (by (with_reducible repeat (first | refine blk_drewN ?_ _ | refine blk_drew ?_ | refine blk_alloc ?_ _)); exact BK104.out)) : gb104 ≠ gb105)); have n6_ := Aside0.mk ((by rw [hg]; exact Nat.ne_of_gt (blk_lt (g := gb104) (o := .cells #[.int .i64 a0_0, .int .i64 a0_1, .int .i64 a0_2, .int .i64 a0_3] 28 (0, 0)) (by (with_reducible repeat (first | refine blk_drewN ?_ _ | refine blk_drew ?_ | refine blk_alloc ?_ _)); exact BK104.out)) : gb105 ≠ gb104)); clear BK104; clear HB; have BK104 := n0_; have HB := n1_; have BK105 := n2_; have GW105 := n3_; have GE105 := n4_; have NB104_105 := n5_; have NB105_104 := n6_; clear n0_ n1_ n2_ n3_ n4_ n5_ n6_; clear hb hbox hg) | ((with_reducible refine gate_dst (N := 7) rfl ?_); refine box_event ?hg (N := 7) ?hd (cs := #[.int .i64 0, .int .i64 0, .int .i64 0, .int .i64 0]) (t := 22) ?hr ?_; (case hd => rfl); (case hg => rfl); (case hr => first | (go_simp; done) | (go_simp; rfl)); intro gb106 hg w6 hbox hb; have n0_ := Aside0.mk (blk_below (g := gb104) (o := .cells #[.int .i64 a0_0, .int .i64 a0_1, .int .i64 a0_2, .int .i64 a0_3] 28 (0, 0)) (by (with_reducible repeat (first | refine blk_drewN ?_ _ | refine blk_drew ?_ | refine blk_alloc ?_ _)); exact BK104.out) hb); have n1_ := Aside0.mk (blk_below (g := gb105) (o := .cells #[.int .i64 a1_0, .int .i64 a1_1, .int .i64 a1_2, .int .i64 a1_3] 22 (0, 0)) (by (with_reducible repeat (first | refine blk_drewN ?_ _ | refine blk_drew ?_ | refine blk_alloc ?_ _)); exact BK105.out) hb); have n2_ := Aside0.mk (below_step (by repeat (first | (with_reducible first | exact HB.out | apply below_alloc | apply pw_below_drewN | apply below_drew1 | refine below_set ?_ GE104.out | refine below_set ?_ GE105.out) | exact HB.out)) hb); have n3_ := Aside0.mk (hbox); have n4_ := Aside0.mk ((by rw [hg]; exact (below_size (by repeat (first | (with_reducible first | exact HB.out | apply below_alloc | apply pw_below_drewN | apply below_drew1 | refine below_set ?_ GE104.out | refine below_set ?_ GE105.out) | exact HB.out))) : w.heap.size ≤ gb106)); have n5_ := Aside0.mk ((by rw [hg]; exact (below_size (by repeat (first | (with_reducible first | exact HB.out | apply below_alloc | apply pw_below_drewN | apply below_drew1 | refine below_set ?_ GE104.out | refine below_set ?_ GE105.out) | exact HB.out))) : w.heap.size ≤ gb106)); have n6_ := Aside0.mk ((by rw [hg]; exact Nat.ne_of_lt (blk_lt (g := gb104) (o := .cells #[.int .i64 a0_0, .int .i64 a0_1, .int .i64 a0_2, .int .i64 a0_3] 28 (0, 0)) (by (with_reducible repeat (first | refine blk_drewN ?_ _ | refine blk_drew ?_ | refine blk_alloc ?_ _)); exact BK104.out)) : gb104 ≠ gb106)); have n7_ := Aside0.mk ((by rw [hg]; exact Nat.ne_of_gt (blk_lt (g := gb104) (o := .cells #[.int .i64 a0_0, .int .i64 a0_1, .int .i64 a0_2, .int .i64 a0_3] 28 (0, 0)) (by (with_reducible repeat (first | refine blk_drewN ?_ _ | refine blk_drew ?_ | refine blk_alloc ?_ _)); exact BK104.out)) : gb106 ≠ gb104)); have n8_ := Aside0.mk ((by rw [hg]; exact Nat.ne_of_lt (blk_lt (g := gb105) (o := .cells #[.int .i64 a1_0, .int .i64 a1_1, .int .i64 a1_2, .int .i64 a1_3] 22 (0, 0)) (by (with_reducible repeat (first | refine blk_drewN ?_ _ | refine blk_drew ?_ | refine blk_alloc ?_ _)); exact BK105.out)) : gb105 ≠ gb106)); have n9_ := Aside0.mk ((by rw [hg]; exact Nat.ne_of_gt (blk_lt (g := gb105) (o := .cells #[.int .i64 a1_0, .int .i64 a1_1, .int .i64 a1_2, .int .i64 a1_3] 22 (0, 0)) (by (with_reducible repeat (first | refine blk_drewN ?_ _ | refine blk_drew ?_ | refine blk_alloc ?_ _)); exact BK105.out)) : gb106 ≠ gb105)); clear BK104; clear BK105; clear HB; have BK104 := n0_; have BK105 := n1_; have HB := n2_; have BK106 := n3_; have GW106 := n4_; have GE106 := n5_; have NB104_106 := n6_; have NB106_104 := n7_; have NB105_106 := n8_; have NB106_105 := n9_; clear n0_ n1_ n2_ n3_ n4_ n5_ n6_ n7_ n8_ n9_; clear hb hbox hg) | ((with_reducible refine gate_dst (N := 12) rfl ?_); refine Kd.R_lit (Kd.int .i64) _ 3 ?hg (N := 12) ?hd (xs := ([0] : List Int)) (inner := [.int .i64 0]) (ok := fun _ => True) (okp := fun _ => True) ?hr ?hp (fun _ hk => hk) trivial (Below.refl _ _) (Nat.le_refl _) (by simp) ?_; (case hd => rfl); (case hg => rfl); (case hr => first | (go_simp; done) | (go_simp; rfl)); (case hp => exact (Reps.one (show Kd.M (Kd.int .i64) _ _ _ 0 [.int .i64 0] from rfl) (Reps.none _ _))); intro v108 w7 ho8 hb hg_ hnew_; clear hg_ hnew_; (first | rw [← Ny107.out] at ho8 | (simp only [Int.reduceToNat] at ho8; rw [← Ny107.out] at ho8)); have n0_ := Aside0.mk (Kd.R_lower ho8 (below_size (by repeat (first | (with_reducible first | exact HB.out | apply below_alloc | apply pw_below_drewN | apply below_drew1 | refine below_set ?_ GE104.out | refine below_set ?_ GE105.out | refine below_set ?_ GE106.out) | exact HB.out)))); have n1_ := Aside0.mk (blk_below (g := gb104) (o := .cells #[.int .i64 a0_0, .int .i64 a0_1, .int .i64 a0_2, .int .i64 a0_3] 28 (0, 0)) (by (with_reducible repeat (first | refine blk_drewN ?_ _ | refine blk_drew ?_ | refine blk_alloc ?_ _)); exact BK104.out) hb); have n2_ := Aside0.mk (blk_below (g := gb105) (o := .cells #[.int .i64 a1_0, .int .i64 a1_1, .int .i64 a1_2, .int .i64 a1_3] 22 (0, 0)) (by (with_reducible repeat (first | refine blk_drewN ?_ _ | refine blk_drew ?_ | refine blk_alloc ?_ _)); exact BK105.out) hb); have n3_ := Aside0.mk (blk_below (g := gb106) (o := .cells #[.int .i64 0, .int .i64 0, .int .i64 0, .int .i64 0] 22 (0, 0)) (by (with_reducible repeat (first | refine blk_drewN ?_ _ | refine blk_drew ?_ | refine blk_alloc ?_ _)); exact BK106.out) hb); have n4_ := Aside0.mk (below_step (by repeat (first | (with_reducible first | exact HB.out | apply below_alloc | apply pw_below_drewN | apply below_drew1 | refine below_set ?_ GE104.out | refine below_set ?_ GE105.out | refine below_set ?_ GE106.out) | exact HB.out)) hb); clear BK104; clear BK105; clear BK106; clear HB; have HO109 := n0_; have BK104 := n1_; have BK105 := n2_; have BK106 := n3_; have HB := n4_; clear n0_ n1_ n2_ n3_ n4_; clear hb ho8))
  go_loopg [8, 9] k (fun kq v8 v9 w' => ∃ (x8_1 : List Int) (x9_1 : Int) (x106000_1 : Int) (x106001_1 : Int) (x106002_1 : Int) (x106003_1 : Int) (x107000_1 : Int) (x107001_1 : Int) (x107002_1 : Int) (x107003_1 : Int), v9 = .int .i64 x9_1 ∧ Aside0 (spec_l2Moments.l0 kq l2 x8_1 x9_1 a0_0 a0_1 a0_2 a0_3 x106000_1 x106001_1 x106002_1 x106003_1 = some (r1, r2, r3, r4, r5)) ∧ Aside0 (kq ≤ k) ∧ Aside0 (Kd.R (Kd.int .i64) 3 w' w.heap.size (fun _ => True) v8 x8_1) ∧ Aside0 (w'.heap[gb104]? = some (.cells #[.int .i64 a0_0, .int .i64 a0_1, .int .i64 a0_2, .int .i64 a0_3] 28 (0, 0))) ∧ Aside0 (w'.heap[gb105]? = some (.cells #[.int .i64 x106000_1, .int .i64 x106001_1, .int .i64 x106002_1, .int .i64 x106003_1] 22 (0, 0))) ∧ Aside0 (w'.heap[gb106]? = some (.cells #[.int .i64 x107000_1, .int .i64 x107001_1, .int .i64 x107002_1, .int .i64 x107003_1] 22 (0, 0))) ∧ Aside0 (Below w.heap.size w w'))
  case atStart => exact ⟨(y107), (0), (a1_0), (a1_1), (a1_2), (a1_3), (0), (0), (0), (0), (by first | rfl | (simp; done) | (simp [*]; done)), H', ⟨Nat.le_refl _⟩, ⟨by (with_reducible repeat (first | apply Kd.R_alloc | apply Kd.R_drewN | apply Kd.R_drew)); exact HO109.out⟩, ⟨by (with_reducible repeat (first | refine blk_drewN ?_ _ | refine blk_drew ?_ | refine blk_alloc ?_ _)); exact BK104.out⟩, ⟨by (with_reducible repeat (first | refine blk_drewN ?_ _ | refine blk_drew ?_ | refine blk_alloc ?_ _)); exact BK105.out⟩, ⟨by (with_reducible repeat (first | refine blk_drewN ?_ _ | refine blk_drew ?_ | refine blk_alloc ?_ _)); exact BK106.out⟩, ⟨by repeat (first | (with_reducible first | exact HB.out | apply below_alloc | apply pw_below_drewN | apply below_drew1 | refine below_set ?_ GE104.out | refine below_set ?_ GE105.out | refine below_set ?_ GE106.out) | exact HB.out)⟩⟩
  case round =>
    clear H'
    try clear c2
    try clear p2
    try clear c3
    obtain ⟨x8_1, x9_1, x106000_1, x106001_1, x106002_1, x106003_1, x107000_1, x107001_1, x107002_1, x107003_1, rfl, HA, HK1, HO_8, BK104, BK105, BK106, HB⟩ := hrel
    cases gk with
    | zero => exact absurd HA.out (by simp [spec_l2Moments.l0])
    | succ k1 =>
      have H := HA.out
      clear HA
      simp only [spec_l2Moments.l0] at H
      by_cases c9 : x9_1 < (l2.length : Int)
      · rw [if_pos c9] at H
        have c9b0 : decide (x9_1 < (l2.length : Int)) = true := decide_eq_true c9
        clear c9
        by_cases c10 : 0 ≤ x9_1
        · rw [if_pos c10] at H
          have c10b0 : decide (0 ≤ x9_1) = true := decide_eq_true c10
          clear c10
          replace H := Option.bind_eq_some_iff.mp H
          obtain ⟨⟨t111, t112, t113, t114, t115⟩, A110, H⟩ := H
          replace H : (if t115 = 0 then (some (x8_1, x106000_1, x106001_1, x106002_1, x106003_1)) else (if x9_1 < (x8_1.length : Int) then (if x8_1.length < 17592186044416 then (spec_l2Moments.l0 k1 l2 (x8_1 ++ [wrap64 ((rd x8_1 x9_1) + t115)]) (wrap64 (x9_1 + 1)) a0_0 a0_1 a0_2 a0_3 t111 t112 t113 t114) else (none)) else (none))) = some (r1, r2, r3, r4, r5) := H
          have A11 := Aside0.mk A110
          clear A110
          by_cases c12 : t115 = 0
          · rw [if_pos c12] at H
            have c12b0 : (t115 == 0) = true := beq_iff_eq.mpr c12
            have c12b1 : (t115 != 0) = false := bne_eq_false_iff_eq.mpr c12
            clear c12
            simp only [Option.some.injEq, Prod.mk.injEq] at H
            obtain ⟨rfl, rfl, rfl, rfl, rfl⟩ := H
            try go_wp2
            have n0_ := Aside0.mk (Kd.R_drew HO_8.out)
            have n1_ := Aside0.mk (blk_drew BK104.out)
            have n2_ := Aside0.mk (blk_drew BK105.out)
            have n3_ := Aside0.mk (blk_drew BK106.out)
            have n4_ := Aside0.mk (below_drew1 HB.out)
            clear HO_8
            clear BK104
            clear BK105
            clear BK106
            clear HB
            have HO_8 := n0_
            have BK104 := n1_
            have BK105 := n2_
            have BK106 := n3_
            have HB := n4_
            clear n0_ n1_ n2_ n3_ n4_
            have p110 : 0 ≤ (x9_1 : Int) := of_decide_eq_true (by first | (with_reducible assumption) | assumption)
            have q110 : x9_1 < (l2.length : Int) := of_decide_eq_true (by first | (with_reducible assumption) | assumption)
            obtain ⟨ad110, e110, hx110_0⟩ := Kd.at_int HR2.out x9_1 p110 q110
            have hw110_0 := hx110_0
            cases e110
            replace hx110_0 := (HB.out.cell (World.block_lt_of_cell? w _ hx110_0)).trans hx110_0
            replace p110 := eq_true p110
            replace q110 := eq_true q110
            refine start_ (n := 13) (S := fun w' => True) (ds := []) #[false, false, false, false, false, false, false, false, false, false, false, false, false] (by kernel_rfl) rfl rfl trivial (fun hHeld => ?_); refine with_tabW spec_l2Moments.tab5 spec_l2Moments.bits5 (fun HT_ HW_ => ?_)
            generalize wr.drew = w13 at HO_8 BK104 BK105 BK106 HB hx110_0 hHeld ⊢
            refine pure_ (i := 2) (N := some 22) (v := ?_) (a' := ?_) #[false, false, true, false, false, false, false, false, false, false, false, false, false] rfl rfl (any_of HT_.out (by kernel_rfl)) (fun _ _ _ h => h) (Or.inl ⟨by rfl, ?_⟩) ?_ ?_
            rotate_left
            · intro w'
              go_simp
              with_reducible rfl
            rotate_left
            · simp only [Act.put, List.setIfInBounds_toArray, List.set_cons_zero, List.set_cons_succ, i64_w, i32_w]
              rfl
            refine pure_ (i := 3) (N := some 23) (v := ?_) (a' := ?_) #[false, false, true, true, false, false, false, false, false, false, false, false, false] rfl rfl (any_of HT_.out (by kernel_rfl)) (fun _ _ _ h => h) (Or.inl ⟨by rfl, ?_⟩) ?_ ?_
            rotate_left
            · intro w'
              go_simp
              with_reducible rfl
            rotate_left
            · simp only [Act.put, List.setIfInBounds_toArray, List.set_cons_zero, List.set_cons_succ, i64_w, i32_w]
              rfl
            refine inv_at [0, 1, 4, 5, 6, 7, 8, 9, 10, 11, 12] (fun a0_ b a w' => ∃ (gb116 : Nat) (m10_ : Value), a = putSel a0_ b [(0, 20, .agg #[.int .i64 a0_0, .int .i64 a0_1, .int .i64 a0_2, .int .i64 a0_3]), (1, 21, .agg #[.int .i64 x106000_1, .int .i64 x106001_1, .int .i64 x106002_1, .int .i64 x106003_1]), (4, 24, .pointer (some (ad110.add (x9_1).toNat))), (5, 25, .int .i64 (rd l2 x9_1)), (6, 26, .tuple #[.agg #[.int .i64 t111, .int .i64 t112, .int .i64 t113, .int .i64 t114], .int .i64 t115]), (7, 19, .tuple #[.agg #[.int .i64 t111, .int .i64 t112, .int .i64 t113, .int .i64 t114], .int .i64 t115]), (8, 27, .agg #[.int .i64 t111, .int .i64 t112, .int .i64 t113, .int .i64 t114]), (9, 28, .int .i64 t115), (10, 10, m10_), (12, 11, .int .i64 t115)] ∧ (Kd.R (Kd.int .i64) 3 w' w.heap.size (fun _ => True) u8 x8_1) ∧ (w'.heap[gb104]? = some (.cells #[.int .i64 a0_0, .int .i64 a0_1, .int .i64 a0_2, .int .i64 a0_3] 28 (0, 0))) ∧ (w'.heap[gb105]? = some (.cells #[.int .i64 x106000_1, .int .i64 x106001_1, .int .i64 x106002_1, .int .i64 x106003_1] 22 (0, 0))) ∧ (w'.heap[gb106]? = some (.cells #[.int .i64 x107000_1, .int .i64 x107001_1, .int .i64 x107002_1, .int .i64 x107003_1] 22 (0, 0))) ∧ (Below w.heap.size w w') ∧ (b 10 = true → b 11 = false → w'.heap[gb116]? = some (.cells #[.int .i64 0, .int .i64 0, .int .i64 0, .int .i64 0] 22 (0, 0))) ∧ (b 10 = true → w.heap.size ≤ gb116) ∧ (b 10 = true → w.heap.size ≤ gb116) ∧ (b 10 = true → gb104 ≠ gb116) ∧ (b 10 = true → gb116 ≠ gb104) ∧ (b 10 = true → gb105 ≠ gb116) ∧ (b 10 = true → gb116 ≠ gb105) ∧ (b 10 = true → gb106 ≠ gb116) ∧ (b 10 = true → gb116 ≠ gb106) ∧ (b 11 = true → w'.heap[gb116]? = some (.cells #[.int .i64 t111, .int .i64 t112, .int .i64 t113, .int .i64 t114] 22 (0, 0))) ∧ (b 10 = true → (m10_ : Value) = .pointer (some ⟨gb116, 0, none⟩))) HT_.out HW_.out (by kernel_rfl) (by kernel_rfl) ?_ ?_ ?_
            · exact ⟨0, .bool false, by simp only [putSel, Bool.false_eq_true, if_false], HO_8.out, BK104.out, BK105.out, BK106.out, HB.out, fun h_ => absurd h_ (by decide), fun h_ => absurd h_ (by decide), fun h_ => absurd h_ (by decide), fun h_ => absurd h_ (by decide), fun h_ => absurd h_ (by decide), fun h_ => absurd h_ (by decide), fun h_ => absurd h_ (by decide), fun h_ => absurd h_ (by decide), fun h_ => absurd h_ (by decide), fun h_ => absurd h_ (by decide), fun h_ => absurd h_ (by decide)⟩
            · skip
              clear BK104 BK105 BK106 HB HO_8
              refine steps_cons ?_ ?_
              · rintro b a w' ⟨gb116, m10_, ha, Q_HO_8, Q_BK104, Q_BK105, Q_BK106, Q_HB, Q_BK116, Q_GW116, Q_GE116, Q_NB104_116, Q_NB116_104, Q_NB105_116, Q_NB116_105, Q_NB106_116, Q_NB116_106, Q_BK116_e11, Q_X10_⟩ hb_ hon hoff
                refine ⟨_, rfl, fun K hK => ?_⟩
                have e3 : a.tmps[3]? = some (.pointer (some ⟨gb104, 0, none⟩)) := by rw [ha]; exact (putSel_off rfl).trans rfl
                replace ha := Aside0.mk ha
                have HO_8 := Aside0.mk Q_HO_8
                have BK104 := Aside0.mk Q_BK104
                have BK105 := Aside0.mk Q_BK105
                have BK106 := Aside0.mk Q_BK106
                have HB := Aside0.mk Q_HB
                have hc0_ : w'.cell? ⟨gb104, 0, none⟩ = some (.int .i64 a0_0) := (blk_cell BK104.out 0).trans rfl
                have hc1_ : w'.cell? ⟨gb104, 1, none⟩ = some (.int .i64 a0_1) := (blk_cell BK104.out 1).trans rfl
                have hc2_ : w'.cell? ⟨gb104, 2, none⟩ = some (.int .i64 a0_2) := (blk_cell BK104.out 2).trans rfl
                have hc3_ : w'.cell? ⟨gb104, 3, none⟩ = some (.int .i64 a0_3) := (blk_cell BK104.out 3).trans rfl
                refine value_ (w1 := w') (v := .agg #[.int .i64 a0_0, .int .i64 a0_1, .int .i64 a0_2, .int .i64 a0_3]) (by rfl) rfl ?_ ?_
                · go_simp
                  (try simp only [i64_w])
                  try rfl
                refine hK.out _ _ ⟨gb116, m10_, (by rw [ha.out]; exact putSel_upk 0 hb_ rfl rfl rfl), Q_HO_8, Q_BK104, Q_BK105, Q_BK106, Q_HB, Q_BK116, Q_GW116, Q_GE116, Q_NB104_116, Q_NB116_104, Q_NB105_116, Q_NB116_105, Q_NB106_116, Q_NB116_106, fun h0_ => absurd ((hoff 11 (by kernel_rfl)).symm.trans h0_) (by decide), Q_X10_⟩
              refine steps_cons ?_ ?_
              · rintro b a w' ⟨gb116, m10_, ha, Q_HO_8, Q_BK104, Q_BK105, Q_BK106, Q_HB, Q_BK116, Q_GW116, Q_GE116, Q_NB104_116, Q_NB116_104, Q_NB105_116, Q_NB116_105, Q_NB106_116, Q_NB116_106, Q_BK116_e11, Q_X10_⟩ hb_ hon hoff
                refine ⟨_, rfl, fun K hK => ?_⟩
                have e4 : a.tmps[4]? = some (.pointer (some ⟨gb105, 0, none⟩)) := by rw [ha]; exact (putSel_off rfl).trans rfl
                replace ha := Aside0.mk ha
                have HO_8 := Aside0.mk Q_HO_8
                have BK104 := Aside0.mk Q_BK104
                have BK105 := Aside0.mk Q_BK105
                have BK106 := Aside0.mk Q_BK106
                have HB := Aside0.mk Q_HB
                have hc0_ : w'.cell? ⟨gb105, 0, none⟩ = some (.int .i64 x106000_1) := (blk_cell BK105.out 0).trans rfl
                have hc1_ : w'.cell? ⟨gb105, 1, none⟩ = some (.int .i64 x106001_1) := (blk_cell BK105.out 1).trans rfl
                have hc2_ : w'.cell? ⟨gb105, 2, none⟩ = some (.int .i64 x106002_1) := (blk_cell BK105.out 2).trans rfl
                have hc3_ : w'.cell? ⟨gb105, 3, none⟩ = some (.int .i64 x106003_1) := (blk_cell BK105.out 3).trans rfl
                refine value_ (w1 := w') (v := .agg #[.int .i64 x106000_1, .int .i64 x106001_1, .int .i64 x106002_1, .int .i64 x106003_1]) (by rfl) rfl ?_ ?_
                · go_simp
                  (try simp only [i64_w])
                  try rfl
                refine hK.out _ _ ⟨gb116, m10_, (by rw [ha.out]; exact putSel_upk 1 hb_ rfl rfl rfl), Q_HO_8, Q_BK104, Q_BK105, Q_BK106, Q_HB, Q_BK116, Q_GW116, Q_GE116, Q_NB104_116, Q_NB116_104, Q_NB105_116, Q_NB116_105, Q_NB106_116, Q_NB116_106, fun h0_ => absurd ((hoff 11 (by kernel_rfl)).symm.trans h0_) (by decide), Q_X10_⟩
              refine steps_cons ?_ ?_
              · rintro b a w' ⟨gb116, m10_, ha, Q_HO_8, Q_BK104, Q_BK105, Q_BK106, Q_HB, Q_BK116, Q_GW116, Q_GE116, Q_NB104_116, Q_NB116_104, Q_NB105_116, Q_NB116_105, Q_NB106_116, Q_NB116_106, Q_BK116_e11, Q_X10_⟩ hb_ hon hoff
                refine ⟨_, rfl, fun K hK => ?_⟩
                have e22 : a.tmps[22]? = some (.slice (some ad110) l2.length c2) := by rw [ha]; exact (putSel_off rfl).trans rfl
                have e23 : a.tmps[23]? = some (.int .i64 x9_1) := by rw [ha]; exact (putSel_off rfl).trans rfl
                replace ha := Aside0.mk ha
                have HO_8 := Aside0.mk Q_HO_8
                have BK104 := Aside0.mk Q_BK104
                have BK105 := Aside0.mk Q_BK105
                have BK106 := Aside0.mk Q_BK106
                have HB := Aside0.mk Q_HB
                have hs0_ : w'.cell? (ad110.add (x9_1).toNat) = some (.int .i64 (rd l2 x9_1)) := ((HB.out.cell (World.block_lt_of_cell? w _ hw110_0)).trans hw110_0)
                refine value_ (w1 := w') (v := .pointer (some (ad110.add (x9_1).toNat))) (by rfl) rfl ?_ ?_
                · go_simp
                  (try simp only [i64_w])
                  try rfl
                refine hK.out _ _ ⟨gb116, m10_, (by rw [ha.out]; exact putSel_upk 2 hb_ rfl rfl rfl), Q_HO_8, Q_BK104, Q_BK105, Q_BK106, Q_HB, Q_BK116, Q_GW116, Q_GE116, Q_NB104_116, Q_NB116_104, Q_NB105_116, Q_NB116_105, Q_NB106_116, Q_NB116_106, fun h0_ => absurd ((hoff 11 (by kernel_rfl)).symm.trans h0_) (by decide), Q_X10_⟩
              refine steps_cons ?_ ?_
              · rintro b a w' ⟨gb116, m10_, ha, Q_HO_8, Q_BK104, Q_BK105, Q_BK106, Q_HB, Q_BK116, Q_GW116, Q_GE116, Q_NB104_116, Q_NB116_104, Q_NB105_116, Q_NB116_105, Q_NB106_116, Q_NB116_106, Q_BK116_e11, Q_X10_⟩ hb_ hon hoff
                refine ⟨_, rfl, fun K hK => ?_⟩
                have e24 : a.tmps[24]? = some (.pointer (some (ad110.add (x9_1).toNat))) := by rw [ha]; exact putSel_on (e := (4, 24, .pointer (some (ad110.add (x9_1).toNat)))) 2 rfl rfl (hon 4 (by kernel_rfl)) rfl
                replace ha := Aside0.mk ha
                have HO_8 := Aside0.mk Q_HO_8
                have BK104 := Aside0.mk Q_BK104
                have BK105 := Aside0.mk Q_BK105
                have BK106 := Aside0.mk Q_BK106
                have HB := Aside0.mk Q_HB
                have hs0_ : w'.cell? (ad110.add (x9_1).toNat) = some (.int .i64 (rd l2 x9_1)) := ((HB.out.cell (World.block_lt_of_cell? w _ hw110_0)).trans hw110_0)
                refine value_ (w1 := w') (v := .int .i64 (rd l2 x9_1)) (by rfl) rfl ?_ ?_
                · go_simp
                  (try simp only [i64_w])
                  try rfl
                refine hK.out _ _ ⟨gb116, m10_, (by rw [ha.out]; exact putSel_upk 3 hb_ rfl rfl rfl), Q_HO_8, Q_BK104, Q_BK105, Q_BK106, Q_HB, Q_BK116, Q_GW116, Q_GE116, Q_NB104_116, Q_NB116_104, Q_NB105_116, Q_NB116_105, Q_NB106_116, Q_NB116_106, fun h0_ => absurd ((hoff 11 (by kernel_rfl)).symm.trans h0_) (by decide), Q_X10_⟩
              refine steps_cons ?_ ?_
              · rintro b a w' ⟨gb116, m10_, ha, Q_HO_8, Q_BK104, Q_BK105, Q_BK106, Q_HB, Q_BK116, Q_GW116, Q_GE116, Q_NB104_116, Q_NB116_104, Q_NB105_116, Q_NB116_105, Q_NB106_116, Q_NB116_106, Q_BK116_e11, Q_X10_⟩ hb_ hon hoff
                refine ⟨_, rfl, fun K hK => ?_⟩
                have e20 : a.tmps[20]? = some (.agg #[.int .i64 a0_0, .int .i64 a0_1, .int .i64 a0_2, .int .i64 a0_3]) := by rw [ha]; exact putSel_on (e := (0, 20, .agg #[.int .i64 a0_0, .int .i64 a0_1, .int .i64 a0_2, .int .i64 a0_3])) 0 rfl rfl (hon 0 (by kernel_rfl)) rfl
                have e21 : a.tmps[21]? = some (.agg #[.int .i64 x106000_1, .int .i64 x106001_1, .int .i64 x106002_1, .int .i64 x106003_1]) := by rw [ha]; exact putSel_on (e := (1, 21, .agg #[.int .i64 x106000_1, .int .i64 x106001_1, .int .i64 x106002_1, .int .i64 x106003_1])) 1 rfl rfl (hon 1 (by kernel_rfl)) rfl
                have e25 : a.tmps[25]? = some (.int .i64 (rd l2 x9_1)) := by rw [ha]; exact putSel_on (e := (5, 25, .int .i64 (rd l2 x9_1))) 3 rfl rfl (hon 5 (by kernel_rfl)) rfl
                replace ha := Aside0.mk ha
                have HO_8 := Aside0.mk Q_HO_8
                have BK104 := Aside0.mk Q_BK104
                have BK105 := Aside0.mk Q_BK105
                have BK106 := Aside0.mk Q_BK106
                have HB := Aside0.mk Q_HB
                refine goes_ Try.func52 (by kernel_rfl) rfl #[.agg #[.int .i64 a0_0, .int .i64 a0_1, .int .i64 a0_2, .int .i64 a0_3], .agg #[.int .i64 x106000_1, .int .i64 x106001_1, .int .i64 x106002_1, .int .i64 x106003_1], .int .i64 (rd l2 x9_1)] (by rfl) rfl rfl (by first | (simp only [List.map_toArray, List.map_cons, List.map_nil, Act.eval, Array.getD_eq_getD_getElem?, Option.getD_some, e20, e21, e25]; done) | (simp only [List.map_toArray, List.map_cons, List.map_nil, Act.eval, Array.getD_eq_getD_getElem?, Option.getD_some, e20, e21, e25]; rfl)) ?_
                with_reducible refine (xL2Step.calls a0_0 a0_1 a0_2 a0_3 x106000_1 x106001_1 x106002_1 x106003_1 (rd l2 x9_1) t111 t112 t113 t114 t115 _ A11.out).mono ?_
                rintro e w14 ⟨rfl, hb⟩
                refine ⟨_, rfl, ?_⟩
                have n0_ := Aside0.mk (Kd.R_below (by (with_reducible repeat (first | apply Kd.R_alloc | apply Kd.R_drewN | apply Kd.R_drew)); exact HO_8.out) hb)
                have n1_ := Aside0.mk (blk_below (g := gb104) (o := .cells #[.int .i64 a0_0, .int .i64 a0_1, .int .i64 a0_2, .int .i64 a0_3] 28 (0, 0)) (by (with_reducible repeat (first | refine blk_drewN ?_ _ | refine blk_drew ?_ | refine blk_alloc ?_ _)); exact BK104.out) hb)
                have n2_ := Aside0.mk (blk_below (g := gb105) (o := .cells #[.int .i64 x106000_1, .int .i64 x106001_1, .int .i64 x106002_1, .int .i64 x106003_1] 22 (0, 0)) (by (with_reducible repeat (first | refine blk_drewN ?_ _ | refine blk_drew ?_ | refine blk_alloc ?_ _)); exact BK105.out) hb)
                have n3_ := Aside0.mk (blk_below (g := gb106) (o := .cells #[.int .i64 x107000_1, .int .i64 x107001_1, .int .i64 x107002_1, .int .i64 x107003_1] 22 (0, 0)) (by (with_reducible repeat (first | refine blk_drewN ?_ _ | refine blk_drew ?_ | refine blk_alloc ?_ _)); exact BK106.out) hb)
                have n4_ := Aside0.mk (below_step (by repeat (first | (with_reducible first | exact HB.out | apply below_alloc | apply pw_below_drewN | apply below_drew1 | refine below_set ?_ GE104.out | refine below_set ?_ GE105.out | refine below_set ?_ GE106.out) | exact HB.out)) hb)
                have z_BK116 := fun (h0_ : b 10 = true) (h1_ : b 11 = false) => (show w14.heap[gb116]? = some (.cells #[.int .i64 0, .int .i64 0, .int .i64 0, .int .i64 0] 22 (0, 0)) from by first | exact (blk_below (g := gb116) (o := .cells #[.int .i64 0, .int .i64 0, .int .i64 0, .int .i64 0] 22 (0, 0)) (by (with_reducible repeat (first | refine blk_drewN ?_ _ | refine blk_drew ?_ | refine blk_alloc ?_ _)); exact (Q_BK116 h0_ h1_)) hb))
                clear HO_8
                clear BK104
                clear BK105
                clear BK106
                clear HB
                have HO_8 := n0_
                have BK104 := n1_
                have BK105 := n2_
                have BK106 := n3_
                have HB := n4_
                clear n0_ n1_ n2_ n3_ n4_
                (try clear hb)
                (try clear hb2)
                (try clear hk)
                (try clear hi)
                refine hK.out _ _ ⟨gb116, m10_, (by rw [ha.out]; exact putSel_upk 4 hb_ rfl rfl rfl), (by (with_reducible repeat (first | apply Kd.R_alloc | apply Kd.R_drewN | apply Kd.R_drew)); exact HO_8.out), (by (with_reducible repeat (first | refine blk_drewN ?_ _ | refine blk_drew ?_ | refine blk_alloc ?_ _)); exact BK104.out), (by (with_reducible repeat (first | refine blk_drewN ?_ _ | refine blk_drew ?_ | refine blk_alloc ?_ _)); exact BK105.out), (by (with_reducible repeat (first | refine blk_drewN ?_ _ | refine blk_drew ?_ | refine blk_alloc ?_ _)); exact BK106.out), (by repeat (first | (with_reducible first | exact HB.out | apply below_alloc | apply pw_below_drewN | apply below_drew1 | refine below_set ?_ GE104.out | refine below_set ?_ GE105.out | refine below_set ?_ GE106.out) | exact HB.out)), z_BK116, Q_GW116, Q_GE116, Q_NB104_116, Q_NB116_104, Q_NB105_116, Q_NB116_105, Q_NB106_116, Q_NB116_106, fun h0_ => absurd ((hoff 11 (by kernel_rfl)).symm.trans h0_) (by decide), Q_X10_⟩
              refine steps_cons ?_ ?_
              · rintro b a w' ⟨gb116, m10_, ha, Q_HO_8, Q_BK104, Q_BK105, Q_BK106, Q_HB, Q_BK116, Q_GW116, Q_GE116, Q_NB104_116, Q_NB116_104, Q_NB105_116, Q_NB116_105, Q_NB106_116, Q_NB116_106, Q_BK116_e11, Q_X10_⟩ hb_ hon hoff
                refine ⟨_, rfl, fun K hK => ?_⟩
                have e26 : a.tmps[26]? = some (.tuple #[.agg #[.int .i64 t111, .int .i64 t112, .int .i64 t113, .int .i64 t114], .int .i64 t115]) := by rw [ha]; exact putSel_on (e := (6, 26, .tuple #[.agg #[.int .i64 t111, .int .i64 t112, .int .i64 t113, .int .i64 t114], .int .i64 t115])) 4 rfl rfl (hon 6 (by kernel_rfl)) rfl
                replace ha := Aside0.mk ha
                have HO_8 := Aside0.mk Q_HO_8
                have BK104 := Aside0.mk Q_BK104
                have BK105 := Aside0.mk Q_BK105
                have BK106 := Aside0.mk Q_BK106
                have HB := Aside0.mk Q_HB
                refine value_ (w1 := w') (v := .tuple #[.agg #[.int .i64 t111, .int .i64 t112, .int .i64 t113, .int .i64 t114], .int .i64 t115]) (by rfl) rfl ?_ ?_
                · go_simp
                  (try simp only [i64_w])
                  try rfl
                refine hK.out _ _ ⟨gb116, m10_, (by rw [ha.out]; exact putSel_upk 5 hb_ rfl rfl rfl), Q_HO_8, Q_BK104, Q_BK105, Q_BK106, Q_HB, Q_BK116, Q_GW116, Q_GE116, Q_NB104_116, Q_NB116_104, Q_NB105_116, Q_NB116_105, Q_NB106_116, Q_NB116_106, fun h0_ => absurd ((hoff 11 (by kernel_rfl)).symm.trans h0_) (by decide), Q_X10_⟩
              refine steps_cons ?_ ?_
              · rintro b a w' ⟨gb116, m10_, ha, Q_HO_8, Q_BK104, Q_BK105, Q_BK106, Q_HB, Q_BK116, Q_GW116, Q_GE116, Q_NB104_116, Q_NB116_104, Q_NB105_116, Q_NB116_105, Q_NB106_116, Q_NB116_106, Q_BK116_e11, Q_X10_⟩ hb_ hon hoff
                refine ⟨_, rfl, fun K hK => ?_⟩
                have e19 : a.tmps[19]? = some (.tuple #[.agg #[.int .i64 t111, .int .i64 t112, .int .i64 t113, .int .i64 t114], .int .i64 t115]) := by rw [ha]; exact putSel_on (e := (7, 19, .tuple #[.agg #[.int .i64 t111, .int .i64 t112, .int .i64 t113, .int .i64 t114], .int .i64 t115])) 5 rfl rfl (hon 7 (by kernel_rfl)) rfl
                replace ha := Aside0.mk ha
                have HO_8 := Aside0.mk Q_HO_8
                have BK104 := Aside0.mk Q_BK104
                have BK105 := Aside0.mk Q_BK105
                have BK106 := Aside0.mk Q_BK106
                have HB := Aside0.mk Q_HB
                refine value_ (w1 := w') (v := .agg #[.int .i64 t111, .int .i64 t112, .int .i64 t113, .int .i64 t114]) (by rfl) rfl ?_ ?_
                · go_simp
                  (try simp only [i64_w])
                  try rfl
                refine hK.out _ _ ⟨gb116, m10_, (by rw [ha.out]; exact putSel_upk 6 hb_ rfl rfl rfl), Q_HO_8, Q_BK104, Q_BK105, Q_BK106, Q_HB, Q_BK116, Q_GW116, Q_GE116, Q_NB104_116, Q_NB116_104, Q_NB105_116, Q_NB116_105, Q_NB106_116, Q_NB116_106, fun h0_ => absurd ((hoff 11 (by kernel_rfl)).symm.trans h0_) (by decide), Q_X10_⟩
              refine steps_cons ?_ ?_
              · rintro b a w' ⟨gb116, m10_, ha, Q_HO_8, Q_BK104, Q_BK105, Q_BK106, Q_HB, Q_BK116, Q_GW116, Q_GE116, Q_NB104_116, Q_NB116_104, Q_NB105_116, Q_NB116_105, Q_NB106_116, Q_NB116_106, Q_BK116_e11, Q_X10_⟩ hb_ hon hoff
                refine ⟨_, rfl, fun K hK => ?_⟩
                have e19 : a.tmps[19]? = some (.tuple #[.agg #[.int .i64 t111, .int .i64 t112, .int .i64 t113, .int .i64 t114], .int .i64 t115]) := by rw [ha]; exact putSel_on (e := (7, 19, .tuple #[.agg #[.int .i64 t111, .int .i64 t112, .int .i64 t113, .int .i64 t114], .int .i64 t115])) 5 rfl rfl (hon 7 (by kernel_rfl)) rfl
                replace ha := Aside0.mk ha
                have HO_8 := Aside0.mk Q_HO_8
                have BK104 := Aside0.mk Q_BK104
                have BK105 := Aside0.mk Q_BK105
                have BK106 := Aside0.mk Q_BK106
                have HB := Aside0.mk Q_HB
                refine value_ (w1 := w') (v := .int .i64 t115) (by rfl) rfl ?_ ?_
                · go_simp
                  (try simp only [i64_w])
                  try rfl
                refine hK.out _ _ ⟨gb116, m10_, (by rw [ha.out]; exact putSel_upk 7 hb_ rfl rfl rfl), Q_HO_8, Q_BK104, Q_BK105, Q_BK106, Q_HB, Q_BK116, Q_GW116, Q_GE116, Q_NB104_116, Q_NB116_104, Q_NB105_116, Q_NB116_105, Q_NB106_116, Q_NB116_106, Q_BK116_e11, Q_X10_⟩
              refine steps_cons ?_ ?_
              · rintro b a w' ⟨gb116, m10_, ha, Q_HO_8, Q_BK104, Q_BK105, Q_BK106, Q_HB, Q_BK116, Q_GW116, Q_GE116, Q_NB104_116, Q_NB116_104, Q_NB105_116, Q_NB116_105, Q_NB106_116, Q_NB116_106, Q_BK116_e11, Q_X10_⟩ hb_ hon hoff
                refine ⟨_, rfl, fun K hK => ?_⟩
                replace ha := Aside0.mk ha
                have HO_8 := Aside0.mk Q_HO_8
                have BK104 := Aside0.mk Q_BK104
                have BK105 := Aside0.mk Q_BK105
                have BK106 := Aside0.mk Q_BK106
                have HB := Aside0.mk Q_HB
                refine box_step ?hg (N := 10) ?hd (cs := #[.int .i64 0, .int .i64 0, .int .i64 0, .int .i64 0]) (t := 22) ?hr ?_; (case hd => rfl); (case hg => rfl); (case hr => first | (go_simp; done) | (go_simp; rfl))
                intro gb116 hg w14 hbox hb
                have n0_ := Aside0.mk (Kd.R_below (by (with_reducible repeat (first | apply Kd.R_alloc | apply Kd.R_drewN | apply Kd.R_drew)); exact HO_8.out) hb)
                have n1_ := Aside0.mk (blk_below (g := gb104) (o := .cells #[.int .i64 a0_0, .int .i64 a0_1, .int .i64 a0_2, .int .i64 a0_3] 28 (0, 0)) (by (with_reducible repeat (first | refine blk_drewN ?_ _ | refine blk_drew ?_ | refine blk_alloc ?_ _)); exact BK104.out) hb)
                have n2_ := Aside0.mk (blk_below (g := gb105) (o := .cells #[.int .i64 x106000_1, .int .i64 x106001_1, .int .i64 x106002_1, .int .i64 x106003_1] 22 (0, 0)) (by (with_reducible repeat (first | refine blk_drewN ?_ _ | refine blk_drew ?_ | refine blk_alloc ?_ _)); exact BK105.out) hb)
                have n3_ := Aside0.mk (blk_below (g := gb106) (o := .cells #[.int .i64 x107000_1, .int .i64 x107001_1, .int .i64 x107002_1, .int .i64 x107003_1] 22 (0, 0)) (by (with_reducible repeat (first | refine blk_drewN ?_ _ | refine blk_drew ?_ | refine blk_alloc ?_ _)); exact BK106.out) hb)
                have n4_ := Aside0.mk (below_step (by repeat (first | (with_reducible first | exact HB.out | apply below_alloc | apply pw_below_drewN | apply below_drew1 | refine below_set ?_ GE104.out | refine below_set ?_ GE105.out | refine below_set ?_ GE106.out) | exact HB.out)) hb)
                have n5_ := Aside0.mk (hbox)
                have n6_ := Aside0.mk ((by rw [hg]; exact (below_size (by repeat (first | (with_reducible first | exact HB.out | apply below_alloc | apply pw_below_drewN | apply below_drew1 | refine below_set ?_ GE104.out | refine below_set ?_ GE105.out | refine below_set ?_ GE106.out) | exact HB.out))) : w.heap.size ≤ gb116))
                have n7_ := Aside0.mk ((by rw [hg]; exact (below_size (by repeat (first | (with_reducible first | exact HB.out | apply below_alloc | apply pw_below_drewN | apply below_drew1 | refine below_set ?_ GE104.out | refine below_set ?_ GE105.out | refine below_set ?_ GE106.out) | exact HB.out))) : w.heap.size ≤ gb116))
                have n8_ := Aside0.mk ((by rw [hg]; exact Nat.ne_of_lt (blk_lt (g := gb104) (o := .cells #[.int .i64 a0_0, .int .i64 a0_1, .int .i64 a0_2, .int .i64 a0_3] 28 (0, 0)) (by (with_reducible repeat (first | refine blk_drewN ?_ _ | refine blk_drew ?_ | refine blk_alloc ?_ _)); exact BK104.out)) : gb104 ≠ gb116))
                have n9_ := Aside0.mk ((by rw [hg]; exact Nat.ne_of_gt (blk_lt (g := gb104) (o := .cells #[.int .i64 a0_0, .int .i64 a0_1, .int .i64 a0_2, .int .i64 a0_3] 28 (0, 0)) (by (with_reducible repeat (first | refine blk_drewN ?_ _ | refine blk_drew ?_ | refine blk_alloc ?_ _)); exact BK104.out)) : gb116 ≠ gb104))
                have n10_ := Aside0.mk ((by rw [hg]; exact Nat.ne_of_lt (blk_lt (g := gb105) (o := .cells #[.int .i64 x106000_1, .int .i64 x106001_1, .int .i64 x106002_1, .int .i64 x106003_1] 22 (0, 0)) (by (with_reducible repeat (first | refine blk_drewN ?_ _ | refine blk_drew ?_ | refine blk_alloc ?_ _)); exact BK105.out)) : gb105 ≠ gb116))
                have n11_ := Aside0.mk ((by rw [hg]; exact Nat.ne_of_gt (blk_lt (g := gb105) (o := .cells #[.int .i64 x106000_1, .int .i64 x106001_1, .int .i64 x106002_1, .int .i64 x106003_1] 22 (0, 0)) (by (with_reducible repeat (first | refine blk_drewN ?_ _ | refine blk_drew ?_ | refine blk_alloc ?_ _)); exact BK105.out)) : gb116 ≠ gb105))
                have n12_ := Aside0.mk ((by rw [hg]; exact Nat.ne_of_lt (blk_lt (g := gb106) (o := .cells #[.int .i64 x107000_1, .int .i64 x107001_1, .int .i64 x107002_1, .int .i64 x107003_1] 22 (0, 0)) (by (with_reducible repeat (first | refine blk_drewN ?_ _ | refine blk_drew ?_ | refine blk_alloc ?_ _)); exact BK106.out)) : gb106 ≠ gb116))
                have n13_ := Aside0.mk ((by rw [hg]; exact Nat.ne_of_gt (blk_lt (g := gb106) (o := .cells #[.int .i64 x107000_1, .int .i64 x107001_1, .int .i64 x107002_1, .int .i64 x107003_1] 22 (0, 0)) (by (with_reducible repeat (first | refine blk_drewN ?_ _ | refine blk_drew ?_ | refine blk_alloc ?_ _)); exact BK106.out)) : gb116 ≠ gb106))
                clear HO_8
                clear BK104
                clear BK105
                clear BK106
                clear HB
                have HO_8 := n0_
                have BK104 := n1_
                have BK105 := n2_
                have BK106 := n3_
                have HB := n4_
                have BK116 := n5_
                have GW116 := n6_
                have GE116 := n7_
                have NB104_116 := n8_
                have NB116_104 := n9_
                have NB105_116 := n10_
                have NB116_105 := n11_
                have NB106_116 := n12_
                have NB116_106 := n13_
                clear n0_ n1_ n2_ n3_ n4_ n5_ n6_ n7_ n8_ n9_ n10_ n11_ n12_ n13_
                clear hb hbox hg
                refine hK.out _ _ ⟨gb116, (.pointer (some ⟨gb116, 0, none⟩)), (by rw [ha.out]; exact putSel_upk 8 hb_ rfl rfl rfl), (by (with_reducible repeat (first | apply Kd.R_alloc | apply Kd.R_drewN | apply Kd.R_drew)); exact HO_8.out), (by (with_reducible repeat (first | refine blk_drewN ?_ _ | refine blk_drew ?_ | refine blk_alloc ?_ _)); exact BK104.out), (by (with_reducible repeat (first | refine blk_drewN ?_ _ | refine blk_drew ?_ | refine blk_alloc ?_ _)); exact BK105.out), (by (with_reducible repeat (first | refine blk_drewN ?_ _ | refine blk_drew ?_ | refine blk_alloc ?_ _)); exact BK106.out), (by repeat (first | (with_reducible first | exact HB.out | apply below_alloc | apply pw_below_drewN | apply below_drew1 | refine below_set ?_ GE104.out | refine below_set ?_ GE105.out | refine below_set ?_ GE106.out | refine below_set ?_ GE116.out) | exact HB.out)), fun _ _ => (by (with_reducible repeat (first | refine blk_drewN ?_ _ | refine blk_drew ?_ | refine blk_alloc ?_ _)); exact BK116.out), fun _ => GW116.out, fun _ => GE116.out, fun _ => NB104_116.out, fun _ => NB116_104.out, fun _ => NB105_116.out, fun _ => NB116_105.out, fun _ => NB106_116.out, fun _ => NB116_106.out, fun h0_ => absurd ((hoff 11 (by kernel_rfl)).symm.trans h0_) (by decide), fun _ => rfl⟩
              refine steps_cons ?_ ?_
              · rintro b a w' ⟨gb116, m10_, ha, Q_HO_8, Q_BK104, Q_BK105, Q_BK106, Q_HB, Q_BK116, Q_GW116, Q_GE116, Q_NB104_116, Q_NB116_104, Q_NB105_116, Q_NB116_105, Q_NB106_116, Q_NB116_106, Q_BK116_e11, Q_X10_⟩ hb_ hon hoff
                refine ⟨_, rfl, fun K hK => ?_⟩
                have e10 : a.tmps[10]? = some (m10_) := by rw [ha]; exact putSel_on (e := (10, 10, m10_)) 8 rfl rfl (hon 10 (by kernel_rfl)) rfl
                rw [Q_X10_ (hon 10 (by kernel_rfl))] at e10
                have e27 : a.tmps[27]? = some (.agg #[.int .i64 t111, .int .i64 t112, .int .i64 t113, .int .i64 t114]) := by rw [ha]; exact putSel_on (e := (8, 27, .agg #[.int .i64 t111, .int .i64 t112, .int .i64 t113, .int .i64 t114])) 6 rfl rfl (hon 8 (by kernel_rfl)) rfl
                replace ha := Aside0.mk ha
                have HO_8 := Aside0.mk Q_HO_8
                have BK104 := Aside0.mk Q_BK104
                have BK105 := Aside0.mk Q_BK105
                have BK106 := Aside0.mk Q_BK106
                have HB := Aside0.mk Q_HB
                have BK116 := Aside0.mk (Q_BK116 (hon 10 (by kernel_rfl)) hb_)
                have GW116 := Aside0.mk (Q_GW116 (hon 10 (by kernel_rfl)))
                have GE116 := Aside0.mk (Q_GE116 (hon 10 (by kernel_rfl)))
                have NB104_116 := Aside0.mk (Q_NB104_116 (hon 10 (by kernel_rfl)))
                have NB116_104 := Aside0.mk (Q_NB116_104 (hon 10 (by kernel_rfl)))
                have NB105_116 := Aside0.mk (Q_NB105_116 (hon 10 (by kernel_rfl)))
                have NB116_105 := Aside0.mk (Q_NB116_105 (hon 10 (by kernel_rfl)))
                have NB106_116 := Aside0.mk (Q_NB106_116 (hon 10 (by kernel_rfl)))
                have NB116_106 := Aside0.mk (Q_NB116_106 (hon 10 (by kernel_rfl)))
                have hs17 : w'.cell? ⟨gb116, 0, none⟩ = some (.int .i64 0) := (blk_cell BK116.out 0).trans rfl
                have hfs17 := blk_frozen BK116.out 0
                have hns17_0 := NB104_116.out
                have hns17_1 := NB105_116.out
                have hns17_2 := NB106_116.out
                have hms17_0 := NB116_104.out
                have hms17_1 := NB116_105.out
                have hms17_2 := NB116_106.out
                have hs18 : w'.cell? ⟨gb116, 1, none⟩ = some (.int .i64 0) := (blk_cell BK116.out 1).trans rfl
                have hfs18 := blk_frozen BK116.out 1
                have hns18_0 := NB104_116.out
                have hns18_1 := NB105_116.out
                have hns18_2 := NB106_116.out
                have hms18_0 := NB116_104.out
                have hms18_1 := NB116_105.out
                have hms18_2 := NB116_106.out
                have hs19 : w'.cell? ⟨gb116, 2, none⟩ = some (.int .i64 0) := (blk_cell BK116.out 2).trans rfl
                have hfs19 := blk_frozen BK116.out 2
                have hns19_0 := NB104_116.out
                have hns19_1 := NB105_116.out
                have hns19_2 := NB106_116.out
                have hms19_0 := NB116_104.out
                have hms19_1 := NB116_105.out
                have hms19_2 := NB116_106.out
                have hs20 : w'.cell? ⟨gb116, 3, none⟩ = some (.int .i64 0) := (blk_cell BK116.out 3).trans rfl
                have hfs20 := blk_frozen BK116.out 3
                have hns20_0 := NB104_116.out
                have hns20_1 := NB105_116.out
                have hns20_2 := NB106_116.out
                have hms20_0 := NB116_104.out
                have hms20_1 := NB116_105.out
                have hms20_2 := NB116_106.out
                refine skip_ (w1 := ?_) (by rfl) rfl ?_ ?_
                rotate_left
                · go_simp
                  rfl
                refine hK.out _ _ ⟨gb116, m10_, (by rw [ha.out]; exact putSel_none (v := undef) rfl), (by (with_reducible repeat (first | apply Kd.R_alloc | apply Kd.R_drewN | apply Kd.R_drew)); exact Kd.R_mono (Kd.R_far (p := ⟨gb116, 3, none⟩) (Kd.R_far (p := ⟨gb116, 2, none⟩) (Kd.R_far (p := ⟨gb116, 1, none⟩) (Kd.R_far (p := ⟨gb116, 0, none⟩) (Kd.R_types HO_8.out BK116.out (by decide)) (fun _ hk => hk.2) (.int .i64 t111)) (fun _ hk => hk.2) (.int .i64 t112)) (fun _ hk => hk.2) (.int .i64 t113)) (fun _ hk => hk.2) (.int .i64 t114)) (fun _ hk => trivial)), (by (with_reducible repeat (first | refine blk_drewN ?_ _ | refine blk_drew ?_ | refine blk_alloc ?_ _)); refine blk_far ?_ NB104_116.out _; (with_reducible repeat (first | refine blk_drewN ?_ _ | refine blk_drew ?_ | refine blk_alloc ?_ _)); refine blk_far ?_ NB104_116.out _; (with_reducible repeat (first | refine blk_drewN ?_ _ | refine blk_drew ?_ | refine blk_alloc ?_ _)); refine blk_far ?_ NB104_116.out _; (with_reducible repeat (first | refine blk_drewN ?_ _ | refine blk_drew ?_ | refine blk_alloc ?_ _)); refine blk_far ?_ NB104_116.out _; (with_reducible repeat (first | refine blk_drewN ?_ _ | refine blk_drew ?_ | refine blk_alloc ?_ _)); exact BK104.out), (by (with_reducible repeat (first | refine blk_drewN ?_ _ | refine blk_drew ?_ | refine blk_alloc ?_ _)); refine blk_far ?_ NB105_116.out _; (with_reducible repeat (first | refine blk_drewN ?_ _ | refine blk_drew ?_ | refine blk_alloc ?_ _)); refine blk_far ?_ NB105_116.out _; (with_reducible repeat (first | refine blk_drewN ?_ _ | refine blk_drew ?_ | refine blk_alloc ?_ _)); refine blk_far ?_ NB105_116.out _; (with_reducible repeat (first | refine blk_drewN ?_ _ | refine blk_drew ?_ | refine blk_alloc ?_ _)); refine blk_far ?_ NB105_116.out _; (with_reducible repeat (first | refine blk_drewN ?_ _ | refine blk_drew ?_ | refine blk_alloc ?_ _)); exact BK105.out), (by (with_reducible repeat (first | refine blk_drewN ?_ _ | refine blk_drew ?_ | refine blk_alloc ?_ _)); refine blk_far ?_ NB106_116.out _; (with_reducible repeat (first | refine blk_drewN ?_ _ | refine blk_drew ?_ | refine blk_alloc ?_ _)); refine blk_far ?_ NB106_116.out _; (with_reducible repeat (first | refine blk_drewN ?_ _ | refine blk_drew ?_ | refine blk_alloc ?_ _)); refine blk_far ?_ NB106_116.out _; (with_reducible repeat (first | refine blk_drewN ?_ _ | refine blk_drew ?_ | refine blk_alloc ?_ _)); refine blk_far ?_ NB106_116.out _; (with_reducible repeat (first | refine blk_drewN ?_ _ | refine blk_drew ?_ | refine blk_alloc ?_ _)); exact BK106.out), (by repeat (first | (with_reducible first | exact HB.out | apply below_alloc | apply pw_below_drewN | apply below_drew1 | refine below_set ?_ GE104.out | refine below_set ?_ GE105.out | refine below_set ?_ GE106.out | refine below_set ?_ GE116.out) | exact HB.out)), fun _ h1_ => absurd ((up_self b 11).symm.trans h1_) (by decide), fun _ => GW116.out, fun _ => GE116.out, fun _ => NB104_116.out, fun _ => NB116_104.out, fun _ => NB105_116.out, fun _ => NB116_105.out, fun _ => NB106_116.out, fun _ => NB116_106.out, fun _ => (by (with_reducible repeat (first | refine blk_drewN ?_ _ | refine blk_drew ?_ | refine blk_alloc ?_ _)); refine blk_put (cs := #[.int .i64 t111, .int .i64 t112, .int .i64 t113, .int .i64 0]) ?_ 3 _ rfl; (with_reducible repeat (first | refine blk_drewN ?_ _ | refine blk_drew ?_ | refine blk_alloc ?_ _)); refine blk_put (cs := #[.int .i64 t111, .int .i64 t112, .int .i64 0, .int .i64 0]) ?_ 2 _ rfl; (with_reducible repeat (first | refine blk_drewN ?_ _ | refine blk_drew ?_ | refine blk_alloc ?_ _)); refine blk_put (cs := #[.int .i64 t111, .int .i64 0, .int .i64 0, .int .i64 0]) ?_ 1 _ rfl; (with_reducible repeat (first | refine blk_drewN ?_ _ | refine blk_drew ?_ | refine blk_alloc ?_ _)); refine blk_put (cs := #[.int .i64 0, .int .i64 0, .int .i64 0, .int .i64 0]) ?_ 0 _ rfl; (with_reducible repeat (first | refine blk_drewN ?_ _ | refine blk_drew ?_ | refine blk_alloc ?_ _)); exact BK116.out), Q_X10_⟩
              refine steps_cons ?_ ?_
              · rintro b a w' ⟨gb116, m10_, ha, Q_HO_8, Q_BK104, Q_BK105, Q_BK106, Q_HB, Q_BK116, Q_GW116, Q_GE116, Q_NB104_116, Q_NB116_104, Q_NB105_116, Q_NB116_105, Q_NB106_116, Q_NB116_106, Q_BK116_e11, Q_X10_⟩ hb_ hon hoff
                refine ⟨_, rfl, fun K hK => ?_⟩
                have e28 : a.tmps[28]? = some (.int .i64 t115) := by rw [ha]; exact putSel_on (e := (9, 28, .int .i64 t115)) 7 rfl rfl (hon 9 (by kernel_rfl)) rfl
                replace ha := Aside0.mk ha
                have HO_8 := Aside0.mk Q_HO_8
                have BK104 := Aside0.mk Q_BK104
                have BK105 := Aside0.mk Q_BK105
                have BK106 := Aside0.mk Q_BK106
                have HB := Aside0.mk Q_HB
                have GW116 := Aside0.mk (Q_GW116 (hon 10 (by kernel_rfl)))
                have GE116 := Aside0.mk (Q_GE116 (hon 10 (by kernel_rfl)))
                have NB104_116 := Aside0.mk (Q_NB104_116 (hon 10 (by kernel_rfl)))
                have NB116_104 := Aside0.mk (Q_NB116_104 (hon 10 (by kernel_rfl)))
                have NB105_116 := Aside0.mk (Q_NB105_116 (hon 10 (by kernel_rfl)))
                have NB116_105 := Aside0.mk (Q_NB116_105 (hon 10 (by kernel_rfl)))
                have NB106_116 := Aside0.mk (Q_NB106_116 (hon 10 (by kernel_rfl)))
                have NB116_106 := Aside0.mk (Q_NB116_106 (hon 10 (by kernel_rfl)))
                have BK116 := Aside0.mk (Q_BK116_e11 (hon 11 (by kernel_rfl)))
                refine value_ (w1 := w') (v := .int .i64 t115) (by rfl) rfl ?_ ?_
                · go_simp
                  (try simp only [i64_w])
                  try rfl
                refine hK.out _ _ ⟨gb116, m10_, (by rw [ha.out]; exact putSel_upk 9 hb_ rfl rfl rfl), Q_HO_8, Q_BK104, Q_BK105, Q_BK106, Q_HB, fun _ h1_ => absurd ((hon 11 (by kernel_rfl)).symm.trans h1_) (by decide), Q_GW116, Q_GE116, Q_NB104_116, Q_NB116_104, Q_NB105_116, Q_NB116_105, Q_NB106_116, Q_NB116_106, Q_BK116_e11, Q_X10_⟩
              exact steps_nil
            rintro b a w20 hall ⟨gb116, m10_, ha, Q_HO_8, Q_BK104, Q_BK105, Q_BK106, Q_HB, Q_BK116, Q_GW116, Q_GE116, Q_NB104_116, Q_NB116_104, Q_NB105_116, Q_NB116_105, Q_NB106_116, Q_NB116_106, Q_BK116_e11, Q_X10_⟩
            clear BK104 BK105 BK106 HB HO_8
            have hb0_ := hall 0 (by kernel_rfl)
            have hb1_ := hall 1 (by kernel_rfl)
            have hb4_ := hall 4 (by kernel_rfl)
            have hb5_ := hall 5 (by kernel_rfl)
            have hb6_ := hall 6 (by kernel_rfl)
            have hb7_ := hall 7 (by kernel_rfl)
            have hb8_ := hall 8 (by kernel_rfl)
            have hb9_ := hall 9 (by kernel_rfl)
            have hb10_ := hall 10 (by kernel_rfl)
            have hb11_ := hall 11 (by kernel_rfl)
            have hb12_ := hall 12 (by kernel_rfl)
            subst ha
            obtain rfl := Q_X10_ hb10_
            simp only [putSel, hb0_, hb1_, hb4_, hb5_, hb6_, hb7_, hb8_, hb9_, hb10_, hb11_, hb12_, if_true, Act.put, List.setIfInBounds_toArray, List.set_cons_zero, List.set_cons_succ]
            have HO_8 := Aside0.mk Q_HO_8
            clear Q_HO_8
            have BK104 := Aside0.mk Q_BK104
            clear Q_BK104
            have BK105 := Aside0.mk Q_BK105
            clear Q_BK105
            have BK106 := Aside0.mk Q_BK106
            clear Q_BK106
            have HB := Aside0.mk Q_HB
            clear Q_HB
            clear Q_BK116
            have GW116 := Aside0.mk (Q_GW116 hb10_)
            clear Q_GW116
            have GE116 := Aside0.mk (Q_GE116 hb10_)
            clear Q_GE116
            have NB104_116 := Aside0.mk (Q_NB104_116 hb10_)
            clear Q_NB104_116
            have NB116_104 := Aside0.mk (Q_NB116_104 hb10_)
            clear Q_NB116_104
            have NB105_116 := Aside0.mk (Q_NB105_116 hb10_)
            clear Q_NB105_116
            have NB116_105 := Aside0.mk (Q_NB116_105 hb10_)
            clear Q_NB116_105
            have NB106_116 := Aside0.mk (Q_NB106_116 hb10_)
            clear Q_NB106_116
            have NB116_106 := Aside0.mk (Q_NB116_106 hb10_)
            clear Q_NB116_106
            have BK116 := Aside0.mk (Q_BK116_e11 hb11_)
            clear Q_BK116_e11
            clear hall hb0_ hb1_ hb4_ hb5_ hb6_ hb7_ hb8_ hb9_ hb10_ hb11_ hb12_
            try go_wp2
            have n0_ := Aside0.mk (Kd.R_drew HO_8.out)
            have n1_ := Aside0.mk (blk_drew BK104.out)
            have n2_ := Aside0.mk (blk_drew BK105.out)
            have n3_ := Aside0.mk (blk_drew BK106.out)
            have n4_ := Aside0.mk (blk_drew BK116.out)
            have n5_ := Aside0.mk (below_drew1 HB.out)
            clear HO_8
            clear BK104
            clear BK105
            clear BK106
            clear BK116
            clear HB
            have HO_8 := n0_
            have BK104 := n1_
            have BK105 := n2_
            have BK106 := n3_
            have BK116 := n4_
            have HB := n5_
            clear n0_ n1_ n2_ n3_ n4_ n5_
            refine start_ (n := 4) (S := fun w' => w'.cell? ⟨gb105, 0, none⟩ = some (.int .i64 x106000_1) ∧ w'.cell? ⟨gb105, 1, none⟩ = some (.int .i64 x106001_1) ∧ w'.cell? ⟨gb105, 2, none⟩ = some (.int .i64 x106002_1) ∧ w'.cell? ⟨gb105, 3, none⟩ = some (.int .i64 x106003_1)) (ds := []) #[false, false, false, false] (by kernel_rfl) rfl rfl ⟨(blk_cell BK105.out 0).trans rfl, (blk_cell BK105.out 1).trans rfl, (blk_cell BK105.out 2).trans rfl, (blk_cell BK105.out 3).trans rfl⟩ (fun hHeld => ?_)
            generalize w20.drew = w21 at HO_8 BK104 BK105 BK106 BK116 HB hHeld ⊢
            refine pure_ (i := 0) (N := some 31) (v := ?_) (a' := ?_) #[true, false, false, false] rfl rfl (by kernel_rfl) (fun _ _ _ h => h) (Or.inl ⟨by rfl, ?_⟩) ?_ ?_
            rotate_left
            · intro w'
              go_simp
              with_reducible rfl
            rotate_left
            · simp only [Act.put, List.setIfInBounds_toArray, List.set_cons_zero, List.set_cons_succ, i64_w, i32_w]
              rfl
            refine pure_ (i := 2) (N := some 6) (v := ?_) (a' := ?_) #[true, false, true, false] rfl rfl (by kernel_rfl) (fun _ _ _ h => h) (Or.inl ⟨by rfl, ?_⟩) ?_ ?_
            rotate_left
            · intro w'
              go_simp
              with_reducible rfl
            rotate_left
            · simp only [Act.put, List.setIfInBounds_toArray, List.set_cons_zero, List.set_cons_succ, i64_w, i32_w]
              rfl
            refine take_ (i := 1) (N := some 32) (v := ?_) (a' := ?_) #[true, true, true, false] rfl rfl (by kernel_rfl) (fun _ _ _ h => h) (Or.inl ⟨by rfl, ?_⟩) hHeld ?_ ?_
            rotate_left
            · rintro w' ⟨s0, s1, s2, s3⟩
              go_simp
              with_reducible rfl
            rotate_left
            · simp only [Act.put, List.setIfInBounds_toArray, List.set_cons_zero, List.set_cons_succ, i64_w, i32_w]
              rfl
            refine one_ (i := 3) (N := none) #[true, true, true, true] rfl rfl (by kernel_rfl) (by decide) (fun K hK => ?_)
            have hs22 : w21.cell? ⟨gb106, 0, none⟩ = some (.int .i64 x107000_1) := (blk_cell BK106.out 0).trans rfl
            have hfs22 := blk_frozen BK106.out 0
            have hns22_0 := NB104_106.out
            have hns22_1 := NB105_106.out
            have hns22_3 := NB116_106.out
            have hms22_0 := NB106_104.out
            have hms22_1 := NB106_105.out
            have hms22_3 := NB106_116.out
            have hs23 : w21.cell? ⟨gb106, 1, none⟩ = some (.int .i64 x107001_1) := (blk_cell BK106.out 1).trans rfl
            have hfs23 := blk_frozen BK106.out 1
            have hns23_0 := NB104_106.out
            have hns23_1 := NB105_106.out
            have hns23_3 := NB116_106.out
            have hms23_0 := NB106_104.out
            have hms23_1 := NB106_105.out
            have hms23_3 := NB106_116.out
            have hs24 : w21.cell? ⟨gb106, 2, none⟩ = some (.int .i64 x107002_1) := (blk_cell BK106.out 2).trans rfl
            have hfs24 := blk_frozen BK106.out 2
            have hns24_0 := NB104_106.out
            have hns24_1 := NB105_106.out
            have hns24_3 := NB116_106.out
            have hms24_0 := NB106_104.out
            have hms24_1 := NB106_105.out
            have hms24_3 := NB106_116.out
            have hs25 : w21.cell? ⟨gb106, 3, none⟩ = some (.int .i64 x107003_1) := (blk_cell BK106.out 3).trans rfl
            have hfs25 := blk_frozen BK106.out 3
            have hns25_0 := NB104_106.out
            have hns25_1 := NB105_106.out
            have hns25_3 := NB116_106.out
            have hms25_0 := NB106_104.out
            have hms25_1 := NB106_105.out
            have hms25_3 := NB106_116.out
            refine skip_ (w1 := ?_) (by rfl) rfl ?_ ?_
            rotate_left
            · go_simp
              rfl
            refine hK.out _ _ ⟨((cell_far (p := ⟨gb106, _, none⟩) NB105_106.out _).trans (((cell_far (p := ⟨gb106, _, none⟩) NB105_106.out _).trans (((cell_far (p := ⟨gb106, _, none⟩) NB105_106.out _).trans (((cell_far (p := ⟨gb106, _, none⟩) NB105_106.out _).trans (hHeld.1)))))))), ((cell_far (p := ⟨gb106, _, none⟩) NB105_106.out _).trans (((cell_far (p := ⟨gb106, _, none⟩) NB105_106.out _).trans (((cell_far (p := ⟨gb106, _, none⟩) NB105_106.out _).trans (((cell_far (p := ⟨gb106, _, none⟩) NB105_106.out _).trans (hHeld.2.1)))))))), ((cell_far (p := ⟨gb106, _, none⟩) NB105_106.out _).trans (((cell_far (p := ⟨gb106, _, none⟩) NB105_106.out _).trans (((cell_far (p := ⟨gb106, _, none⟩) NB105_106.out _).trans (((cell_far (p := ⟨gb106, _, none⟩) NB105_106.out _).trans (hHeld.2.2.1)))))))), ((cell_far (p := ⟨gb106, _, none⟩) NB105_106.out _).trans (((cell_far (p := ⟨gb106, _, none⟩) NB105_106.out _).trans (((cell_far (p := ⟨gb106, _, none⟩) NB105_106.out _).trans (((cell_far (p := ⟨gb106, _, none⟩) NB105_106.out _).trans (hHeld.2.2.2))))))))⟩ (fun hHeld => ?_)
            clear hK K
            refine done_ (by kernel_rfl) ?_
            try go_wp2
            refine bodyPost_ret (results_tc rfl _ _ gb106 22 #[.int .i64 x106000_1, .int .i64 x106001_1, .int .i64 x106002_1, .int .i64 x106003_1] (0, 0) _ rfl (by (with_reducible repeat (first | refine blk_drewN ?_ _ | refine blk_drew ?_ | refine blk_alloc ?_ _)); refine blk_put (cs := #[.int .i64 x106000_1, .int .i64 x106001_1, .int .i64 x106002_1, .int .i64 x107003_1]) ?_ 3 _ rfl; (with_reducible repeat (first | refine blk_drewN ?_ _ | refine blk_drew ?_ | refine blk_alloc ?_ _)); refine blk_put (cs := #[.int .i64 x106000_1, .int .i64 x106001_1, .int .i64 x107002_1, .int .i64 x107003_1]) ?_ 2 _ rfl; (with_reducible repeat (first | refine blk_drewN ?_ _ | refine blk_drew ?_ | refine blk_alloc ?_ _)); refine blk_put (cs := #[.int .i64 x106000_1, .int .i64 x107001_1, .int .i64 x107002_1, .int .i64 x107003_1]) ?_ 1 _ rfl; (with_reducible repeat (first | refine blk_drewN ?_ _ | refine blk_drew ?_ | refine blk_alloc ?_ _)); refine blk_put (cs := #[.int .i64 x107000_1, .int .i64 x107001_1, .int .i64 x107002_1, .int .i64 x107003_1]) ?_ 0 _ rfl; (with_reducible repeat (first | refine blk_drewN ?_ _ | refine blk_drew ?_ | refine blk_alloc ?_ _)); exact BK106.out) Try.underlying22 rfl (by kernel_rfl)) rfl ?_
            exact ⟨_, by first | rfl | (simp [errW_none, errW_some] <;> rfl) | (simp [*, errW_none, errW_some] <;> rfl), by (with_reducible repeat (first | apply Kd.R_alloc | apply Kd.R_drewN | apply Kd.R_drew)); exact Kd.R_mono (Kd.R_far (p := ⟨gb106, 3, none⟩) (Kd.R_far (p := ⟨gb106, 2, none⟩) (Kd.R_far (p := ⟨gb106, 1, none⟩) (Kd.R_far (p := ⟨gb106, 0, none⟩) (Kd.R_types HO_8.out BK106.out (by decide)) (fun _ hk => hk.2) (.int .i64 x106000_1)) (fun _ hk => hk.2) (.int .i64 x106001_1)) (fun _ hk => hk.2) (.int .i64 x106002_1)) (fun _ hk => hk.2) (.int .i64 x106003_1)) (fun _ hk => trivial), by repeat (first | (with_reducible first | exact HB.out | apply below_alloc | apply pw_below_drewN | apply below_drew1 | refine below_set ?_ GE104.out | refine below_set ?_ GE105.out | refine below_set ?_ GE106.out | refine below_set ?_ GE116.out) | exact HB.out)⟩
          · rw [if_neg c12] at H
            have c12b0 : (t115 == 0) = false := beq_eq_false_iff_ne.mpr c12
            have c12b1 : (t115 != 0) = true := bne_iff_ne.mpr c12
            by_cases c26 : x9_1 < (x8_1.length : Int)
            · rw [if_pos c26] at H
              have c26b0 : decide (x9_1 < (x8_1.length : Int)) = true := decide_eq_true c26
              clear c26
              by_cases c27 : x8_1.length < 17592186044416
              · rw [if_pos c27] at H
                have LMc27 := Aside0.mk c27
                clear c27
                obtain ⟨y118, hy118⟩ : ∃ y_ : List Int, y_ = (x8_1 ++ [wrap64 ((rd x8_1 x9_1) + t115)]) := ⟨_, rfl⟩
                replace H : (spec_l2Moments.l0 k1 l2 y118 (wrap64 (x9_1 + 1)) a0_0 a0_1 a0_2 a0_3 t111 t112 t113 t114) = some (r1, r2, r3, r4, r5) := by first | (rw [hy118]; with_reducible exact H) | (have H2_ := (Option.bind_some _ _).symm.trans H; rw [hy118]; with_reducible exact H2_) | (have H2_ := (Option.bind_some _ _).symm.trans H; with_reducible exact H2_) | with_reducible exact H | (rw [hy118]; exact H) | exact H
                have Ny118 := Aside0.mk hy118
                clear hy118
                have H' := Aside0.mk H
                clear H
                try go_wp2
                have n0_ := Aside0.mk (Kd.R_drew HO_8.out)
                have n1_ := Aside0.mk (blk_drew BK104.out)
                have n2_ := Aside0.mk (blk_drew BK105.out)
                have n3_ := Aside0.mk (blk_drew BK106.out)
                have n4_ := Aside0.mk (below_drew1 HB.out)
                clear HO_8
                clear BK104
                clear BK105
                clear BK106
                clear HB
                have HO_8 := n0_
                have BK104 := n1_
                have BK105 := n2_
                have BK106 := n3_
                have HB := n4_
                clear n0_ n1_ n2_ n3_ n4_
                have p110 : 0 ≤ (x9_1 : Int) := of_decide_eq_true (by first | (with_reducible assumption) | assumption)
                have q110 : x9_1 < (l2.length : Int) := of_decide_eq_true (by first | (with_reducible assumption) | assumption)
                obtain ⟨ad110, e110, hx110_0⟩ := Kd.at_int HR2.out x9_1 p110 q110
                have hw110_0 := hx110_0
                cases e110
                replace hx110_0 := (HB.out.cell (World.block_lt_of_cell? w _ hx110_0)).trans hx110_0
                replace p110 := eq_true p110
                replace q110 := eq_true q110
                refine start_ (n := 13) (S := fun w' => True) (ds := []) #[false, false, false, false, false, false, false, false, false, false, false, false, false] (by kernel_rfl) rfl rfl trivial (fun hHeld => ?_); refine with_tabW spec_l2Moments.tab5 spec_l2Moments.bits5 (fun HT_ HW_ => ?_)
                generalize wr.drew = w28 at HO_8 BK104 BK105 BK106 HB hx110_0 hHeld ⊢
                refine pure_ (i := 2) (N := some 22) (v := ?_) (a' := ?_) #[false, false, true, false, false, false, false, false, false, false, false, false, false] rfl rfl (any_of HT_.out (by kernel_rfl)) (fun _ _ _ h => h) (Or.inl ⟨by rfl, ?_⟩) ?_ ?_
                rotate_left
                · intro w'
                  go_simp
                  with_reducible rfl
                rotate_left
                · simp only [Act.put, List.setIfInBounds_toArray, List.set_cons_zero, List.set_cons_succ, i64_w, i32_w]
                  rfl
                refine pure_ (i := 3) (N := some 23) (v := ?_) (a' := ?_) #[false, false, true, true, false, false, false, false, false, false, false, false, false] rfl rfl (any_of HT_.out (by kernel_rfl)) (fun _ _ _ h => h) (Or.inl ⟨by rfl, ?_⟩) ?_ ?_
                rotate_left
                · intro w'
                  go_simp
                  with_reducible rfl
                rotate_left
                · simp only [Act.put, List.setIfInBounds_toArray, List.set_cons_zero, List.set_cons_succ, i64_w, i32_w]
                  rfl
                refine inv_at [0, 1, 4, 5, 6, 7, 8, 9, 10, 11, 12] (fun a0_ b a w' => ∃ (gb116 : Nat) (m10_ : Value), a = putSel a0_ b [(0, 20, .agg #[.int .i64 a0_0, .int .i64 a0_1, .int .i64 a0_2, .int .i64 a0_3]), (1, 21, .agg #[.int .i64 x106000_1, .int .i64 x106001_1, .int .i64 x106002_1, .int .i64 x106003_1]), (4, 24, .pointer (some (ad110.add (x9_1).toNat))), (5, 25, .int .i64 (rd l2 x9_1)), (6, 26, .tuple #[.agg #[.int .i64 t111, .int .i64 t112, .int .i64 t113, .int .i64 t114], .int .i64 t115]), (7, 19, .tuple #[.agg #[.int .i64 t111, .int .i64 t112, .int .i64 t113, .int .i64 t114], .int .i64 t115]), (8, 27, .agg #[.int .i64 t111, .int .i64 t112, .int .i64 t113, .int .i64 t114]), (9, 28, .int .i64 t115), (10, 10, m10_), (12, 11, .int .i64 t115)] ∧ (Kd.R (Kd.int .i64) 3 w' w.heap.size (fun _ => True) u8 x8_1) ∧ (w'.heap[gb104]? = some (.cells #[.int .i64 a0_0, .int .i64 a0_1, .int .i64 a0_2, .int .i64 a0_3] 28 (0, 0))) ∧ (w'.heap[gb105]? = some (.cells #[.int .i64 x106000_1, .int .i64 x106001_1, .int .i64 x106002_1, .int .i64 x106003_1] 22 (0, 0))) ∧ (w'.heap[gb106]? = some (.cells #[.int .i64 x107000_1, .int .i64 x107001_1, .int .i64 x107002_1, .int .i64 x107003_1] 22 (0, 0))) ∧ (Below w.heap.size w w') ∧ (b 10 = true → b 11 = false → w'.heap[gb116]? = some (.cells #[.int .i64 0, .int .i64 0, .int .i64 0, .int .i64 0] 22 (0, 0))) ∧ (b 10 = true → w.heap.size ≤ gb116) ∧ (b 10 = true → w.heap.size ≤ gb116) ∧ (b 10 = true → gb104 ≠ gb116) ∧ (b 10 = true → gb116 ≠ gb104) ∧ (b 10 = true → gb105 ≠ gb116) ∧ (b 10 = true → gb116 ≠ gb105) ∧ (b 10 = true → gb106 ≠ gb116) ∧ (b 10 = true → gb116 ≠ gb106) ∧ (b 11 = true → w'.heap[gb116]? = some (.cells #[.int .i64 t111, .int .i64 t112, .int .i64 t113, .int .i64 t114] 22 (0, 0))) ∧ (b 10 = true → (m10_ : Value) = .pointer (some ⟨gb116, 0, none⟩))) HT_.out HW_.out (by kernel_rfl) (by kernel_rfl) ?_ ?_ ?_
                · exact ⟨0, .bool false, by simp only [putSel, Bool.false_eq_true, if_false], HO_8.out, BK104.out, BK105.out, BK106.out, HB.out, fun h_ => absurd h_ (by decide), fun h_ => absurd h_ (by decide), fun h_ => absurd h_ (by decide), fun h_ => absurd h_ (by decide), fun h_ => absurd h_ (by decide), fun h_ => absurd h_ (by decide), fun h_ => absurd h_ (by decide), fun h_ => absurd h_ (by decide), fun h_ => absurd h_ (by decide), fun h_ => absurd h_ (by decide), fun h_ => absurd h_ (by decide)⟩
                · skip
                  clear BK104 BK105 BK106 HB HO_8
                  refine steps_cons ?_ ?_
                  · rintro b a w' ⟨gb116, m10_, ha, Q_HO_8, Q_BK104, Q_BK105, Q_BK106, Q_HB, Q_BK116, Q_GW116, Q_GE116, Q_NB104_116, Q_NB116_104, Q_NB105_116, Q_NB116_105, Q_NB106_116, Q_NB116_106, Q_BK116_e11, Q_X10_⟩ hb_ hon hoff
                    refine ⟨_, rfl, fun K hK => ?_⟩
                    have e3 : a.tmps[3]? = some (.pointer (some ⟨gb104, 0, none⟩)) := by rw [ha]; exact (putSel_off rfl).trans rfl
                    replace ha := Aside0.mk ha
                    have HO_8 := Aside0.mk Q_HO_8
                    have BK104 := Aside0.mk Q_BK104
                    have BK105 := Aside0.mk Q_BK105
                    have BK106 := Aside0.mk Q_BK106
                    have HB := Aside0.mk Q_HB
                    have hc0_ : w'.cell? ⟨gb104, 0, none⟩ = some (.int .i64 a0_0) := (blk_cell BK104.out 0).trans rfl
                    have hc1_ : w'.cell? ⟨gb104, 1, none⟩ = some (.int .i64 a0_1) := (blk_cell BK104.out 1).trans rfl
                    have hc2_ : w'.cell? ⟨gb104, 2, none⟩ = some (.int .i64 a0_2) := (blk_cell BK104.out 2).trans rfl
                    have hc3_ : w'.cell? ⟨gb104, 3, none⟩ = some (.int .i64 a0_3) := (blk_cell BK104.out 3).trans rfl
                    refine value_ (w1 := w') (v := .agg #[.int .i64 a0_0, .int .i64 a0_1, .int .i64 a0_2, .int .i64 a0_3]) (by rfl) rfl ?_ ?_
                    · go_simp
                      (try simp only [i64_w])
                      try rfl
                    refine hK.out _ _ ⟨gb116, m10_, (by rw [ha.out]; exact putSel_upk 0 hb_ rfl rfl rfl), Q_HO_8, Q_BK104, Q_BK105, Q_BK106, Q_HB, Q_BK116, Q_GW116, Q_GE116, Q_NB104_116, Q_NB116_104, Q_NB105_116, Q_NB116_105, Q_NB106_116, Q_NB116_106, fun h0_ => absurd ((hoff 11 (by kernel_rfl)).symm.trans h0_) (by decide), Q_X10_⟩
                  refine steps_cons ?_ ?_
                  · rintro b a w' ⟨gb116, m10_, ha, Q_HO_8, Q_BK104, Q_BK105, Q_BK106, Q_HB, Q_BK116, Q_GW116, Q_GE116, Q_NB104_116, Q_NB116_104, Q_NB105_116, Q_NB116_105, Q_NB106_116, Q_NB116_106, Q_BK116_e11, Q_X10_⟩ hb_ hon hoff
                    refine ⟨_, rfl, fun K hK => ?_⟩
                    have e4 : a.tmps[4]? = some (.pointer (some ⟨gb105, 0, none⟩)) := by rw [ha]; exact (putSel_off rfl).trans rfl
                    replace ha := Aside0.mk ha
                    have HO_8 := Aside0.mk Q_HO_8
                    have BK104 := Aside0.mk Q_BK104
                    have BK105 := Aside0.mk Q_BK105
                    have BK106 := Aside0.mk Q_BK106
                    have HB := Aside0.mk Q_HB
                    have hc0_ : w'.cell? ⟨gb105, 0, none⟩ = some (.int .i64 x106000_1) := (blk_cell BK105.out 0).trans rfl
                    have hc1_ : w'.cell? ⟨gb105, 1, none⟩ = some (.int .i64 x106001_1) := (blk_cell BK105.out 1).trans rfl
                    have hc2_ : w'.cell? ⟨gb105, 2, none⟩ = some (.int .i64 x106002_1) := (blk_cell BK105.out 2).trans rfl
                    have hc3_ : w'.cell? ⟨gb105, 3, none⟩ = some (.int .i64 x106003_1) := (blk_cell BK105.out 3).trans rfl
                    refine value_ (w1 := w') (v := .agg #[.int .i64 x106000_1, .int .i64 x106001_1, .int .i64 x106002_1, .int .i64 x106003_1]) (by rfl) rfl ?_ ?_
                    · go_simp
                      (try simp only [i64_w])
                      try rfl
                    refine hK.out _ _ ⟨gb116, m10_, (by rw [ha.out]; exact putSel_upk 1 hb_ rfl rfl rfl), Q_HO_8, Q_BK104, Q_BK105, Q_BK106, Q_HB, Q_BK116, Q_GW116, Q_GE116, Q_NB104_116, Q_NB116_104, Q_NB105_116, Q_NB116_105, Q_NB106_116, Q_NB116_106, fun h0_ => absurd ((hoff 11 (by kernel_rfl)).symm.trans h0_) (by decide), Q_X10_⟩
                  refine steps_cons ?_ ?_
                  · rintro b a w' ⟨gb116, m10_, ha, Q_HO_8, Q_BK104, Q_BK105, Q_BK106, Q_HB, Q_BK116, Q_GW116, Q_GE116, Q_NB104_116, Q_NB116_104, Q_NB105_116, Q_NB116_105, Q_NB106_116, Q_NB116_106, Q_BK116_e11, Q_X10_⟩ hb_ hon hoff
                    refine ⟨_, rfl, fun K hK => ?_⟩
                    have e22 : a.tmps[22]? = some (.slice (some ad110) l2.length c2) := by rw [ha]; exact (putSel_off rfl).trans rfl
                    have e23 : a.tmps[23]? = some (.int .i64 x9_1) := by rw [ha]; exact (putSel_off rfl).trans rfl
                    replace ha := Aside0.mk ha
                    have HO_8 := Aside0.mk Q_HO_8
                    have BK104 := Aside0.mk Q_BK104
                    have BK105 := Aside0.mk Q_BK105
                    have BK106 := Aside0.mk Q_BK106
                    have HB := Aside0.mk Q_HB
                    have hs0_ : w'.cell? (ad110.add (x9_1).toNat) = some (.int .i64 (rd l2 x9_1)) := ((HB.out.cell (World.block_lt_of_cell? w _ hw110_0)).trans hw110_0)
                    refine value_ (w1 := w') (v := .pointer (some (ad110.add (x9_1).toNat))) (by rfl) rfl ?_ ?_
                    · go_simp
                      (try simp only [i64_w])
                      try rfl
                    refine hK.out _ _ ⟨gb116, m10_, (by rw [ha.out]; exact putSel_upk 2 hb_ rfl rfl rfl), Q_HO_8, Q_BK104, Q_BK105, Q_BK106, Q_HB, Q_BK116, Q_GW116, Q_GE116, Q_NB104_116, Q_NB116_104, Q_NB105_116, Q_NB116_105, Q_NB106_116, Q_NB116_106, fun h0_ => absurd ((hoff 11 (by kernel_rfl)).symm.trans h0_) (by decide), Q_X10_⟩
                  refine steps_cons ?_ ?_
                  · rintro b a w' ⟨gb116, m10_, ha, Q_HO_8, Q_BK104, Q_BK105, Q_BK106, Q_HB, Q_BK116, Q_GW116, Q_GE116, Q_NB104_116, Q_NB116_104, Q_NB105_116, Q_NB116_105, Q_NB106_116, Q_NB116_106, Q_BK116_e11, Q_X10_⟩ hb_ hon hoff
                    refine ⟨_, rfl, fun K hK => ?_⟩
                    have e24 : a.tmps[24]? = some (.pointer (some (ad110.add (x9_1).toNat))) := by rw [ha]; exact putSel_on (e := (4, 24, .pointer (some (ad110.add (x9_1).toNat)))) 2 rfl rfl (hon 4 (by kernel_rfl)) rfl
                    replace ha := Aside0.mk ha
                    have HO_8 := Aside0.mk Q_HO_8
                    have BK104 := Aside0.mk Q_BK104
                    have BK105 := Aside0.mk Q_BK105
                    have BK106 := Aside0.mk Q_BK106
                    have HB := Aside0.mk Q_HB
                    have hs0_ : w'.cell? (ad110.add (x9_1).toNat) = some (.int .i64 (rd l2 x9_1)) := ((HB.out.cell (World.block_lt_of_cell? w _ hw110_0)).trans hw110_0)
                    refine value_ (w1 := w') (v := .int .i64 (rd l2 x9_1)) (by rfl) rfl ?_ ?_
                    · go_simp
                      (try simp only [i64_w])
                      try rfl
                    refine hK.out _ _ ⟨gb116, m10_, (by rw [ha.out]; exact putSel_upk 3 hb_ rfl rfl rfl), Q_HO_8, Q_BK104, Q_BK105, Q_BK106, Q_HB, Q_BK116, Q_GW116, Q_GE116, Q_NB104_116, Q_NB116_104, Q_NB105_116, Q_NB116_105, Q_NB106_116, Q_NB116_106, fun h0_ => absurd ((hoff 11 (by kernel_rfl)).symm.trans h0_) (by decide), Q_X10_⟩
                  refine steps_cons ?_ ?_
                  · rintro b a w' ⟨gb116, m10_, ha, Q_HO_8, Q_BK104, Q_BK105, Q_BK106, Q_HB, Q_BK116, Q_GW116, Q_GE116, Q_NB104_116, Q_NB116_104, Q_NB105_116, Q_NB116_105, Q_NB106_116, Q_NB116_106, Q_BK116_e11, Q_X10_⟩ hb_ hon hoff
                    refine ⟨_, rfl, fun K hK => ?_⟩
                    have e20 : a.tmps[20]? = some (.agg #[.int .i64 a0_0, .int .i64 a0_1, .int .i64 a0_2, .int .i64 a0_3]) := by rw [ha]; exact putSel_on (e := (0, 20, .agg #[.int .i64 a0_0, .int .i64 a0_1, .int .i64 a0_2, .int .i64 a0_3])) 0 rfl rfl (hon 0 (by kernel_rfl)) rfl
                    have e21 : a.tmps[21]? = some (.agg #[.int .i64 x106000_1, .int .i64 x106001_1, .int .i64 x106002_1, .int .i64 x106003_1]) := by rw [ha]; exact putSel_on (e := (1, 21, .agg #[.int .i64 x106000_1, .int .i64 x106001_1, .int .i64 x106002_1, .int .i64 x106003_1])) 1 rfl rfl (hon 1 (by kernel_rfl)) rfl
                    have e25 : a.tmps[25]? = some (.int .i64 (rd l2 x9_1)) := by rw [ha]; exact putSel_on (e := (5, 25, .int .i64 (rd l2 x9_1))) 3 rfl rfl (hon 5 (by kernel_rfl)) rfl
                    replace ha := Aside0.mk ha
                    have HO_8 := Aside0.mk Q_HO_8
                    have BK104 := Aside0.mk Q_BK104
                    have BK105 := Aside0.mk Q_BK105
                    have BK106 := Aside0.mk Q_BK106
                    have HB := Aside0.mk Q_HB
                    refine goes_ Try.func52 (by kernel_rfl) rfl #[.agg #[.int .i64 a0_0, .int .i64 a0_1, .int .i64 a0_2, .int .i64 a0_3], .agg #[.int .i64 x106000_1, .int .i64 x106001_1, .int .i64 x106002_1, .int .i64 x106003_1], .int .i64 (rd l2 x9_1)] (by rfl) rfl rfl (by first | (simp only [List.map_toArray, List.map_cons, List.map_nil, Act.eval, Array.getD_eq_getD_getElem?, Option.getD_some, e20, e21, e25]; done) | (simp only [List.map_toArray, List.map_cons, List.map_nil, Act.eval, Array.getD_eq_getD_getElem?, Option.getD_some, e20, e21, e25]; rfl)) ?_
                    with_reducible refine (xL2Step.calls a0_0 a0_1 a0_2 a0_3 x106000_1 x106001_1 x106002_1 x106003_1 (rd l2 x9_1) t111 t112 t113 t114 t115 _ A11.out).mono ?_
                    rintro e w29 ⟨rfl, hb⟩
                    refine ⟨_, rfl, ?_⟩
                    have n0_ := Aside0.mk (Kd.R_below (by (with_reducible repeat (first | apply Kd.R_alloc | apply Kd.R_drewN | apply Kd.R_drew)); exact HO_8.out) hb)
                    have n1_ := Aside0.mk (blk_below (g := gb104) (o := .cells #[.int .i64 a0_0, .int .i64 a0_1, .int .i64 a0_2, .int .i64 a0_3] 28 (0, 0)) (by (with_reducible repeat (first | refine blk_drewN ?_ _ | refine blk_drew ?_ | refine blk_alloc ?_ _)); exact BK104.out) hb)
                    have n2_ := Aside0.mk (blk_below (g := gb105) (o := .cells #[.int .i64 x106000_1, .int .i64 x106001_1, .int .i64 x106002_1, .int .i64 x106003_1] 22 (0, 0)) (by (with_reducible repeat (first | refine blk_drewN ?_ _ | refine blk_drew ?_ | refine blk_alloc ?_ _)); exact BK105.out) hb)
                    have n3_ := Aside0.mk (blk_below (g := gb106) (o := .cells #[.int .i64 x107000_1, .int .i64 x107001_1, .int .i64 x107002_1, .int .i64 x107003_1] 22 (0, 0)) (by (with_reducible repeat (first | refine blk_drewN ?_ _ | refine blk_drew ?_ | refine blk_alloc ?_ _)); exact BK106.out) hb)
                    have n4_ := Aside0.mk (below_step (by repeat (first | (with_reducible first | exact HB.out | apply below_alloc | apply pw_below_drewN | apply below_drew1 | refine below_set ?_ GE104.out | refine below_set ?_ GE105.out | refine below_set ?_ GE106.out) | exact HB.out)) hb)
                    have z_BK116 := fun (h0_ : b 10 = true) (h1_ : b 11 = false) => (show w29.heap[gb116]? = some (.cells #[.int .i64 0, .int .i64 0, .int .i64 0, .int .i64 0] 22 (0, 0)) from by first | exact (blk_below (g := gb116) (o := .cells #[.int .i64 0, .int .i64 0, .int .i64 0, .int .i64 0] 22 (0, 0)) (by (with_reducible repeat (first | refine blk_drewN ?_ _ | refine blk_drew ?_ | refine blk_alloc ?_ _)); exact (Q_BK116 h0_ h1_)) hb))
                    clear HO_8
                    clear BK104
                    clear BK105
                    clear BK106
                    clear HB
                    have HO_8 := n0_
                    have BK104 := n1_
                    have BK105 := n2_
                    have BK106 := n3_
                    have HB := n4_
                    clear n0_ n1_ n2_ n3_ n4_
                    (try clear hb)
                    (try clear hb2)
                    (try clear hk)
                    (try clear hi)
                    refine hK.out _ _ ⟨gb116, m10_, (by rw [ha.out]; exact putSel_upk 4 hb_ rfl rfl rfl), (by (with_reducible repeat (first | apply Kd.R_alloc | apply Kd.R_drewN | apply Kd.R_drew)); exact HO_8.out), (by (with_reducible repeat (first | refine blk_drewN ?_ _ | refine blk_drew ?_ | refine blk_alloc ?_ _)); exact BK104.out), (by (with_reducible repeat (first | refine blk_drewN ?_ _ | refine blk_drew ?_ | refine blk_alloc ?_ _)); exact BK105.out), (by (with_reducible repeat (first | refine blk_drewN ?_ _ | refine blk_drew ?_ | refine blk_alloc ?_ _)); exact BK106.out), (by repeat (first | (with_reducible first | exact HB.out | apply below_alloc | apply pw_below_drewN | apply below_drew1 | refine below_set ?_ GE104.out | refine below_set ?_ GE105.out | refine below_set ?_ GE106.out) | exact HB.out)), z_BK116, Q_GW116, Q_GE116, Q_NB104_116, Q_NB116_104, Q_NB105_116, Q_NB116_105, Q_NB106_116, Q_NB116_106, fun h0_ => absurd ((hoff 11 (by kernel_rfl)).symm.trans h0_) (by decide), Q_X10_⟩
                  refine steps_cons ?_ ?_
                  · rintro b a w' ⟨gb116, m10_, ha, Q_HO_8, Q_BK104, Q_BK105, Q_BK106, Q_HB, Q_BK116, Q_GW116, Q_GE116, Q_NB104_116, Q_NB116_104, Q_NB105_116, Q_NB116_105, Q_NB106_116, Q_NB116_106, Q_BK116_e11, Q_X10_⟩ hb_ hon hoff
                    refine ⟨_, rfl, fun K hK => ?_⟩
                    have e26 : a.tmps[26]? = some (.tuple #[.agg #[.int .i64 t111, .int .i64 t112, .int .i64 t113, .int .i64 t114], .int .i64 t115]) := by rw [ha]; exact putSel_on (e := (6, 26, .tuple #[.agg #[.int .i64 t111, .int .i64 t112, .int .i64 t113, .int .i64 t114], .int .i64 t115])) 4 rfl rfl (hon 6 (by kernel_rfl)) rfl
                    replace ha := Aside0.mk ha
                    have HO_8 := Aside0.mk Q_HO_8
                    have BK104 := Aside0.mk Q_BK104
                    have BK105 := Aside0.mk Q_BK105
                    have BK106 := Aside0.mk Q_BK106
                    have HB := Aside0.mk Q_HB
                    refine value_ (w1 := w') (v := .tuple #[.agg #[.int .i64 t111, .int .i64 t112, .int .i64 t113, .int .i64 t114], .int .i64 t115]) (by rfl) rfl ?_ ?_
                    · go_simp
                      (try simp only [i64_w])
                      try rfl
                    refine hK.out _ _ ⟨gb116, m10_, (by rw [ha.out]; exact putSel_upk 5 hb_ rfl rfl rfl), Q_HO_8, Q_BK104, Q_BK105, Q_BK106, Q_HB, Q_BK116, Q_GW116, Q_GE116, Q_NB104_116, Q_NB116_104, Q_NB105_116, Q_NB116_105, Q_NB106_116, Q_NB116_106, fun h0_ => absurd ((hoff 11 (by kernel_rfl)).symm.trans h0_) (by decide), Q_X10_⟩
                  refine steps_cons ?_ ?_
                  · rintro b a w' ⟨gb116, m10_, ha, Q_HO_8, Q_BK104, Q_BK105, Q_BK106, Q_HB, Q_BK116, Q_GW116, Q_GE116, Q_NB104_116, Q_NB116_104, Q_NB105_116, Q_NB116_105, Q_NB106_116, Q_NB116_106, Q_BK116_e11, Q_X10_⟩ hb_ hon hoff
                    refine ⟨_, rfl, fun K hK => ?_⟩
                    have e19 : a.tmps[19]? = some (.tuple #[.agg #[.int .i64 t111, .int .i64 t112, .int .i64 t113, .int .i64 t114], .int .i64 t115]) := by rw [ha]; exact putSel_on (e := (7, 19, .tuple #[.agg #[.int .i64 t111, .int .i64 t112, .int .i64 t113, .int .i64 t114], .int .i64 t115])) 5 rfl rfl (hon 7 (by kernel_rfl)) rfl
                    replace ha := Aside0.mk ha
                    have HO_8 := Aside0.mk Q_HO_8
                    have BK104 := Aside0.mk Q_BK104
                    have BK105 := Aside0.mk Q_BK105
                    have BK106 := Aside0.mk Q_BK106
                    have HB := Aside0.mk Q_HB
                    refine value_ (w1 := w') (v := .agg #[.int .i64 t111, .int .i64 t112, .int .i64 t113, .int .i64 t114]) (by rfl) rfl ?_ ?_
                    · go_simp
                      (try simp only [i64_w])
                      try rfl
                    refine hK.out _ _ ⟨gb116, m10_, (by rw [ha.out]; exact putSel_upk 6 hb_ rfl rfl rfl), Q_HO_8, Q_BK104, Q_BK105, Q_BK106, Q_HB, Q_BK116, Q_GW116, Q_GE116, Q_NB104_116, Q_NB116_104, Q_NB105_116, Q_NB116_105, Q_NB106_116, Q_NB116_106, fun h0_ => absurd ((hoff 11 (by kernel_rfl)).symm.trans h0_) (by decide), Q_X10_⟩
                  refine steps_cons ?_ ?_
                  · rintro b a w' ⟨gb116, m10_, ha, Q_HO_8, Q_BK104, Q_BK105, Q_BK106, Q_HB, Q_BK116, Q_GW116, Q_GE116, Q_NB104_116, Q_NB116_104, Q_NB105_116, Q_NB116_105, Q_NB106_116, Q_NB116_106, Q_BK116_e11, Q_X10_⟩ hb_ hon hoff
                    refine ⟨_, rfl, fun K hK => ?_⟩
                    have e19 : a.tmps[19]? = some (.tuple #[.agg #[.int .i64 t111, .int .i64 t112, .int .i64 t113, .int .i64 t114], .int .i64 t115]) := by rw [ha]; exact putSel_on (e := (7, 19, .tuple #[.agg #[.int .i64 t111, .int .i64 t112, .int .i64 t113, .int .i64 t114], .int .i64 t115])) 5 rfl rfl (hon 7 (by kernel_rfl)) rfl
                    replace ha := Aside0.mk ha
                    have HO_8 := Aside0.mk Q_HO_8
                    have BK104 := Aside0.mk Q_BK104
                    have BK105 := Aside0.mk Q_BK105
                    have BK106 := Aside0.mk Q_BK106
                    have HB := Aside0.mk Q_HB
                    refine value_ (w1 := w') (v := .int .i64 t115) (by rfl) rfl ?_ ?_
                    · go_simp
                      (try simp only [i64_w])
                      try rfl
                    refine hK.out _ _ ⟨gb116, m10_, (by rw [ha.out]; exact putSel_upk 7 hb_ rfl rfl rfl), Q_HO_8, Q_BK104, Q_BK105, Q_BK106, Q_HB, Q_BK116, Q_GW116, Q_GE116, Q_NB104_116, Q_NB116_104, Q_NB105_116, Q_NB116_105, Q_NB106_116, Q_NB116_106, Q_BK116_e11, Q_X10_⟩
                  refine steps_cons ?_ ?_
                  · rintro b a w' ⟨gb116, m10_, ha, Q_HO_8, Q_BK104, Q_BK105, Q_BK106, Q_HB, Q_BK116, Q_GW116, Q_GE116, Q_NB104_116, Q_NB116_104, Q_NB105_116, Q_NB116_105, Q_NB106_116, Q_NB116_106, Q_BK116_e11, Q_X10_⟩ hb_ hon hoff
                    refine ⟨_, rfl, fun K hK => ?_⟩
                    replace ha := Aside0.mk ha
                    have HO_8 := Aside0.mk Q_HO_8
                    have BK104 := Aside0.mk Q_BK104
                    have BK105 := Aside0.mk Q_BK105
                    have BK106 := Aside0.mk Q_BK106
                    have HB := Aside0.mk Q_HB
                    refine box_step ?hg (N := 10) ?hd (cs := #[.int .i64 0, .int .i64 0, .int .i64 0, .int .i64 0]) (t := 22) ?hr ?_; (case hd => rfl); (case hg => rfl); (case hr => first | (go_simp; done) | (go_simp; rfl))
                    intro gb116 hg w29 hbox hb
                    have n0_ := Aside0.mk (Kd.R_below (by (with_reducible repeat (first | apply Kd.R_alloc | apply Kd.R_drewN | apply Kd.R_drew)); exact HO_8.out) hb)
                    have n1_ := Aside0.mk (blk_below (g := gb104) (o := .cells #[.int .i64 a0_0, .int .i64 a0_1, .int .i64 a0_2, .int .i64 a0_3] 28 (0, 0)) (by (with_reducible repeat (first | refine blk_drewN ?_ _ | refine blk_drew ?_ | refine blk_alloc ?_ _)); exact BK104.out) hb)
                    have n2_ := Aside0.mk (blk_below (g := gb105) (o := .cells #[.int .i64 x106000_1, .int .i64 x106001_1, .int .i64 x106002_1, .int .i64 x106003_1] 22 (0, 0)) (by (with_reducible repeat (first | refine blk_drewN ?_ _ | refine blk_drew ?_ | refine blk_alloc ?_ _)); exact BK105.out) hb)
                    have n3_ := Aside0.mk (blk_below (g := gb106) (o := .cells #[.int .i64 x107000_1, .int .i64 x107001_1, .int .i64 x107002_1, .int .i64 x107003_1] 22 (0, 0)) (by (with_reducible repeat (first | refine blk_drewN ?_ _ | refine blk_drew ?_ | refine blk_alloc ?_ _)); exact BK106.out) hb)
                    have n4_ := Aside0.mk (below_step (by repeat (first | (with_reducible first | exact HB.out | apply below_alloc | apply pw_below_drewN | apply below_drew1 | refine below_set ?_ GE104.out | refine below_set ?_ GE105.out | refine below_set ?_ GE106.out) | exact HB.out)) hb)
                    have n5_ := Aside0.mk (hbox)
                    have n6_ := Aside0.mk ((by rw [hg]; exact (below_size (by repeat (first | (with_reducible first | exact HB.out | apply below_alloc | apply pw_below_drewN | apply below_drew1 | refine below_set ?_ GE104.out | refine below_set ?_ GE105.out | refine below_set ?_ GE106.out) | exact HB.out))) : w.heap.size ≤ gb116))
                    have n7_ := Aside0.mk ((by rw [hg]; exact (below_size (by repeat (first | (with_reducible first | exact HB.out | apply below_alloc | apply pw_below_drewN | apply below_drew1 | refine below_set ?_ GE104.out | refine below_set ?_ GE105.out | refine below_set ?_ GE106.out) | exact HB.out))) : w.heap.size ≤ gb116))
                    have n8_ := Aside0.mk ((by rw [hg]; exact Nat.ne_of_lt (blk_lt (g := gb104) (o := .cells #[.int .i64 a0_0, .int .i64 a0_1, .int .i64 a0_2, .int .i64 a0_3] 28 (0, 0)) (by (with_reducible repeat (first | refine blk_drewN ?_ _ | refine blk_drew ?_ | refine blk_alloc ?_ _)); exact BK104.out)) : gb104 ≠ gb116))
                    have n9_ := Aside0.mk ((by rw [hg]; exact Nat.ne_of_gt (blk_lt (g := gb104) (o := .cells #[.int .i64 a0_0, .int .i64 a0_1, .int .i64 a0_2, .int .i64 a0_3] 28 (0, 0)) (by (with_reducible repeat (first | refine blk_drewN ?_ _ | refine blk_drew ?_ | refine blk_alloc ?_ _)); exact BK104.out)) : gb116 ≠ gb104))
                    have n10_ := Aside0.mk ((by rw [hg]; exact Nat.ne_of_lt (blk_lt (g := gb105) (o := .cells #[.int .i64 x106000_1, .int .i64 x106001_1, .int .i64 x106002_1, .int .i64 x106003_1] 22 (0, 0)) (by (with_reducible repeat (first | refine blk_drewN ?_ _ | refine blk_drew ?_ | refine blk_alloc ?_ _)); exact BK105.out)) : gb105 ≠ gb116))
                    have n11_ := Aside0.mk ((by rw [hg]; exact Nat.ne_of_gt (blk_lt (g := gb105) (o := .cells #[.int .i64 x106000_1, .int .i64 x106001_1, .int .i64 x106002_1, .int .i64 x106003_1] 22 (0, 0)) (by (with_reducible repeat (first | refine blk_drewN ?_ _ | refine blk_drew ?_ | refine blk_alloc ?_ _)); exact BK105.out)) : gb116 ≠ gb105))
                    have n12_ := Aside0.mk ((by rw [hg]; exact Nat.ne_of_lt (blk_lt (g := gb106) (o := .cells #[.int .i64 x107000_1, .int .i64 x107001_1, .int .i64 x107002_1, .int .i64 x107003_1] 22 (0, 0)) (by (with_reducible repeat (first | refine blk_drewN ?_ _ | refine blk_drew ?_ | refine blk_alloc ?_ _)); exact BK106.out)) : gb106 ≠ gb116))
                    have n13_ := Aside0.mk ((by rw [hg]; exact Nat.ne_of_gt (blk_lt (g := gb106) (o := .cells #[.int .i64 x107000_1, .int .i64 x107001_1, .int .i64 x107002_1, .int .i64 x107003_1] 22 (0, 0)) (by (with_reducible repeat (first | refine blk_drewN ?_ _ | refine blk_drew ?_ | refine blk_alloc ?_ _)); exact BK106.out)) : gb116 ≠ gb106))
                    clear HO_8
                    clear BK104
                    clear BK105
                    clear BK106
                    clear HB
                    have HO_8 := n0_
                    have BK104 := n1_
                    have BK105 := n2_
                    have BK106 := n3_
                    have HB := n4_
                    have BK116 := n5_
                    have GW116 := n6_
                    have GE116 := n7_
                    have NB104_116 := n8_
                    have NB116_104 := n9_
                    have NB105_116 := n10_
                    have NB116_105 := n11_
                    have NB106_116 := n12_
                    have NB116_106 := n13_
                    clear n0_ n1_ n2_ n3_ n4_ n5_ n6_ n7_ n8_ n9_ n10_ n11_ n12_ n13_
                    clear hb hbox hg
                    refine hK.out _ _ ⟨gb116, (.pointer (some ⟨gb116, 0, none⟩)), (by rw [ha.out]; exact putSel_upk 8 hb_ rfl rfl rfl), (by (with_reducible repeat (first | apply Kd.R_alloc | apply Kd.R_drewN | apply Kd.R_drew)); exact HO_8.out), (by (with_reducible repeat (first | refine blk_drewN ?_ _ | refine blk_drew ?_ | refine blk_alloc ?_ _)); exact BK104.out), (by (with_reducible repeat (first | refine blk_drewN ?_ _ | refine blk_drew ?_ | refine blk_alloc ?_ _)); exact BK105.out), (by (with_reducible repeat (first | refine blk_drewN ?_ _ | refine blk_drew ?_ | refine blk_alloc ?_ _)); exact BK106.out), (by repeat (first | (with_reducible first | exact HB.out | apply below_alloc | apply pw_below_drewN | apply below_drew1 | refine below_set ?_ GE104.out | refine below_set ?_ GE105.out | refine below_set ?_ GE106.out | refine below_set ?_ GE116.out) | exact HB.out)), fun _ _ => (by (with_reducible repeat (first | refine blk_drewN ?_ _ | refine blk_drew ?_ | refine blk_alloc ?_ _)); exact BK116.out), fun _ => GW116.out, fun _ => GE116.out, fun _ => NB104_116.out, fun _ => NB116_104.out, fun _ => NB105_116.out, fun _ => NB116_105.out, fun _ => NB106_116.out, fun _ => NB116_106.out, fun h0_ => absurd ((hoff 11 (by kernel_rfl)).symm.trans h0_) (by decide), fun _ => rfl⟩
                  refine steps_cons ?_ ?_
                  · rintro b a w' ⟨gb116, m10_, ha, Q_HO_8, Q_BK104, Q_BK105, Q_BK106, Q_HB, Q_BK116, Q_GW116, Q_GE116, Q_NB104_116, Q_NB116_104, Q_NB105_116, Q_NB116_105, Q_NB106_116, Q_NB116_106, Q_BK116_e11, Q_X10_⟩ hb_ hon hoff
                    refine ⟨_, rfl, fun K hK => ?_⟩
                    have e10 : a.tmps[10]? = some (m10_) := by rw [ha]; exact putSel_on (e := (10, 10, m10_)) 8 rfl rfl (hon 10 (by kernel_rfl)) rfl
                    rw [Q_X10_ (hon 10 (by kernel_rfl))] at e10
                    have e27 : a.tmps[27]? = some (.agg #[.int .i64 t111, .int .i64 t112, .int .i64 t113, .int .i64 t114]) := by rw [ha]; exact putSel_on (e := (8, 27, .agg #[.int .i64 t111, .int .i64 t112, .int .i64 t113, .int .i64 t114])) 6 rfl rfl (hon 8 (by kernel_rfl)) rfl
                    replace ha := Aside0.mk ha
                    have HO_8 := Aside0.mk Q_HO_8
                    have BK104 := Aside0.mk Q_BK104
                    have BK105 := Aside0.mk Q_BK105
                    have BK106 := Aside0.mk Q_BK106
                    have HB := Aside0.mk Q_HB
                    have BK116 := Aside0.mk (Q_BK116 (hon 10 (by kernel_rfl)) hb_)
                    have GW116 := Aside0.mk (Q_GW116 (hon 10 (by kernel_rfl)))
                    have GE116 := Aside0.mk (Q_GE116 (hon 10 (by kernel_rfl)))
                    have NB104_116 := Aside0.mk (Q_NB104_116 (hon 10 (by kernel_rfl)))
                    have NB116_104 := Aside0.mk (Q_NB116_104 (hon 10 (by kernel_rfl)))
                    have NB105_116 := Aside0.mk (Q_NB105_116 (hon 10 (by kernel_rfl)))
                    have NB116_105 := Aside0.mk (Q_NB116_105 (hon 10 (by kernel_rfl)))
                    have NB106_116 := Aside0.mk (Q_NB106_116 (hon 10 (by kernel_rfl)))
                    have NB116_106 := Aside0.mk (Q_NB116_106 (hon 10 (by kernel_rfl)))
                    have hs32 : w'.cell? ⟨gb116, 0, none⟩ = some (.int .i64 0) := (blk_cell BK116.out 0).trans rfl
                    have hfs32 := blk_frozen BK116.out 0
                    have hns32_0 := NB104_116.out
                    have hns32_1 := NB105_116.out
                    have hns32_2 := NB106_116.out
                    have hms32_0 := NB116_104.out
                    have hms32_1 := NB116_105.out
                    have hms32_2 := NB116_106.out
                    have hs33 : w'.cell? ⟨gb116, 1, none⟩ = some (.int .i64 0) := (blk_cell BK116.out 1).trans rfl
                    have hfs33 := blk_frozen BK116.out 1
                    have hns33_0 := NB104_116.out
                    have hns33_1 := NB105_116.out
                    have hns33_2 := NB106_116.out
                    have hms33_0 := NB116_104.out
                    have hms33_1 := NB116_105.out
                    have hms33_2 := NB116_106.out
                    have hs34 : w'.cell? ⟨gb116, 2, none⟩ = some (.int .i64 0) := (blk_cell BK116.out 2).trans rfl
                    have hfs34 := blk_frozen BK116.out 2
                    have hns34_0 := NB104_116.out
                    have hns34_1 := NB105_116.out
                    have hns34_2 := NB106_116.out
                    have hms34_0 := NB116_104.out
                    have hms34_1 := NB116_105.out
                    have hms34_2 := NB116_106.out
                    have hs35 : w'.cell? ⟨gb116, 3, none⟩ = some (.int .i64 0) := (blk_cell BK116.out 3).trans rfl
                    have hfs35 := blk_frozen BK116.out 3
                    have hns35_0 := NB104_116.out
                    have hns35_1 := NB105_116.out
                    have hns35_2 := NB106_116.out
                    have hms35_0 := NB116_104.out
                    have hms35_1 := NB116_105.out
                    have hms35_2 := NB116_106.out
                    refine skip_ (w1 := ?_) (by rfl) rfl ?_ ?_
                    rotate_left
                    · go_simp
                      rfl
                    refine hK.out _ _ ⟨gb116, m10_, (by rw [ha.out]; exact putSel_none (v := undef) rfl), (by (with_reducible repeat (first | apply Kd.R_alloc | apply Kd.R_drewN | apply Kd.R_drew)); exact Kd.R_mono (Kd.R_far (p := ⟨gb116, 3, none⟩) (Kd.R_far (p := ⟨gb116, 2, none⟩) (Kd.R_far (p := ⟨gb116, 1, none⟩) (Kd.R_far (p := ⟨gb116, 0, none⟩) (Kd.R_types HO_8.out BK116.out (by decide)) (fun _ hk => hk.2) (.int .i64 t111)) (fun _ hk => hk.2) (.int .i64 t112)) (fun _ hk => hk.2) (.int .i64 t113)) (fun _ hk => hk.2) (.int .i64 t114)) (fun _ hk => trivial)), (by (with_reducible repeat (first | refine blk_drewN ?_ _ | refine blk_drew ?_ | refine blk_alloc ?_ _)); refine blk_far ?_ NB104_116.out _; (with_reducible repeat (first | refine blk_drewN ?_ _ | refine blk_drew ?_ | refine blk_alloc ?_ _)); refine blk_far ?_ NB104_116.out _; (with_reducible repeat (first | refine blk_drewN ?_ _ | refine blk_drew ?_ | refine blk_alloc ?_ _)); refine blk_far ?_ NB104_116.out _; (with_reducible repeat (first | refine blk_drewN ?_ _ | refine blk_drew ?_ | refine blk_alloc ?_ _)); refine blk_far ?_ NB104_116.out _; (with_reducible repeat (first | refine blk_drewN ?_ _ | refine blk_drew ?_ | refine blk_alloc ?_ _)); exact BK104.out), (by (with_reducible repeat (first | refine blk_drewN ?_ _ | refine blk_drew ?_ | refine blk_alloc ?_ _)); refine blk_far ?_ NB105_116.out _; (with_reducible repeat (first | refine blk_drewN ?_ _ | refine blk_drew ?_ | refine blk_alloc ?_ _)); refine blk_far ?_ NB105_116.out _; (with_reducible repeat (first | refine blk_drewN ?_ _ | refine blk_drew ?_ | refine blk_alloc ?_ _)); refine blk_far ?_ NB105_116.out _; (with_reducible repeat (first | refine blk_drewN ?_ _ | refine blk_drew ?_ | refine blk_alloc ?_ _)); refine blk_far ?_ NB105_116.out _; (with_reducible repeat (first | refine blk_drewN ?_ _ | refine blk_drew ?_ | refine blk_alloc ?_ _)); exact BK105.out), (by (with_reducible repeat (first | refine blk_drewN ?_ _ | refine blk_drew ?_ | refine blk_alloc ?_ _)); refine blk_far ?_ NB106_116.out _; (with_reducible repeat (first | refine blk_drewN ?_ _ | refine blk_drew ?_ | refine blk_alloc ?_ _)); refine blk_far ?_ NB106_116.out _; (with_reducible repeat (first | refine blk_drewN ?_ _ | refine blk_drew ?_ | refine blk_alloc ?_ _)); refine blk_far ?_ NB106_116.out _; (with_reducible repeat (first | refine blk_drewN ?_ _ | refine blk_drew ?_ | refine blk_alloc ?_ _)); refine blk_far ?_ NB106_116.out _; (with_reducible repeat (first | refine blk_drewN ?_ _ | refine blk_drew ?_ | refine blk_alloc ?_ _)); exact BK106.out), (by repeat (first | (with_reducible first | exact HB.out | apply below_alloc | apply pw_below_drewN | apply below_drew1 | refine below_set ?_ GE104.out | refine below_set ?_ GE105.out | refine below_set ?_ GE106.out | refine below_set ?_ GE116.out) | exact HB.out)), fun _ h1_ => absurd ((up_self b 11).symm.trans h1_) (by decide), fun _ => GW116.out, fun _ => GE116.out, fun _ => NB104_116.out, fun _ => NB116_104.out, fun _ => NB105_116.out, fun _ => NB116_105.out, fun _ => NB106_116.out, fun _ => NB116_106.out, fun _ => (by (with_reducible repeat (first | refine blk_drewN ?_ _ | refine blk_drew ?_ | refine blk_alloc ?_ _)); refine blk_put (cs := #[.int .i64 t111, .int .i64 t112, .int .i64 t113, .int .i64 0]) ?_ 3 _ rfl; (with_reducible repeat (first | refine blk_drewN ?_ _ | refine blk_drew ?_ | refine blk_alloc ?_ _)); refine blk_put (cs := #[.int .i64 t111, .int .i64 t112, .int .i64 0, .int .i64 0]) ?_ 2 _ rfl; (with_reducible repeat (first | refine blk_drewN ?_ _ | refine blk_drew ?_ | refine blk_alloc ?_ _)); refine blk_put (cs := #[.int .i64 t111, .int .i64 0, .int .i64 0, .int .i64 0]) ?_ 1 _ rfl; (with_reducible repeat (first | refine blk_drewN ?_ _ | refine blk_drew ?_ | refine blk_alloc ?_ _)); refine blk_put (cs := #[.int .i64 0, .int .i64 0, .int .i64 0, .int .i64 0]) ?_ 0 _ rfl; (with_reducible repeat (first | refine blk_drewN ?_ _ | refine blk_drew ?_ | refine blk_alloc ?_ _)); exact BK116.out), Q_X10_⟩
                  refine steps_cons ?_ ?_
                  · rintro b a w' ⟨gb116, m10_, ha, Q_HO_8, Q_BK104, Q_BK105, Q_BK106, Q_HB, Q_BK116, Q_GW116, Q_GE116, Q_NB104_116, Q_NB116_104, Q_NB105_116, Q_NB116_105, Q_NB106_116, Q_NB116_106, Q_BK116_e11, Q_X10_⟩ hb_ hon hoff
                    refine ⟨_, rfl, fun K hK => ?_⟩
                    have e28 : a.tmps[28]? = some (.int .i64 t115) := by rw [ha]; exact putSel_on (e := (9, 28, .int .i64 t115)) 7 rfl rfl (hon 9 (by kernel_rfl)) rfl
                    replace ha := Aside0.mk ha
                    have HO_8 := Aside0.mk Q_HO_8
                    have BK104 := Aside0.mk Q_BK104
                    have BK105 := Aside0.mk Q_BK105
                    have BK106 := Aside0.mk Q_BK106
                    have HB := Aside0.mk Q_HB
                    have GW116 := Aside0.mk (Q_GW116 (hon 10 (by kernel_rfl)))
                    have GE116 := Aside0.mk (Q_GE116 (hon 10 (by kernel_rfl)))
                    have NB104_116 := Aside0.mk (Q_NB104_116 (hon 10 (by kernel_rfl)))
                    have NB116_104 := Aside0.mk (Q_NB116_104 (hon 10 (by kernel_rfl)))
                    have NB105_116 := Aside0.mk (Q_NB105_116 (hon 10 (by kernel_rfl)))
                    have NB116_105 := Aside0.mk (Q_NB116_105 (hon 10 (by kernel_rfl)))
                    have NB106_116 := Aside0.mk (Q_NB106_116 (hon 10 (by kernel_rfl)))
                    have NB116_106 := Aside0.mk (Q_NB116_106 (hon 10 (by kernel_rfl)))
                    have BK116 := Aside0.mk (Q_BK116_e11 (hon 11 (by kernel_rfl)))
                    refine value_ (w1 := w') (v := .int .i64 t115) (by rfl) rfl ?_ ?_
                    · go_simp
                      (try simp only [i64_w])
                      try rfl
                    refine hK.out _ _ ⟨gb116, m10_, (by rw [ha.out]; exact putSel_upk 9 hb_ rfl rfl rfl), Q_HO_8, Q_BK104, Q_BK105, Q_BK106, Q_HB, fun _ h1_ => absurd ((hon 11 (by kernel_rfl)).symm.trans h1_) (by decide), Q_GW116, Q_GE116, Q_NB104_116, Q_NB116_104, Q_NB105_116, Q_NB116_105, Q_NB106_116, Q_NB116_106, Q_BK116_e11, Q_X10_⟩
                  exact steps_nil
                rintro b a w35 hall ⟨gb116, m10_, ha, Q_HO_8, Q_BK104, Q_BK105, Q_BK106, Q_HB, Q_BK116, Q_GW116, Q_GE116, Q_NB104_116, Q_NB116_104, Q_NB105_116, Q_NB116_105, Q_NB106_116, Q_NB116_106, Q_BK116_e11, Q_X10_⟩
                clear BK104 BK105 BK106 HB HO_8
                have hb0_ := hall 0 (by kernel_rfl)
                have hb1_ := hall 1 (by kernel_rfl)
                have hb4_ := hall 4 (by kernel_rfl)
                have hb5_ := hall 5 (by kernel_rfl)
                have hb6_ := hall 6 (by kernel_rfl)
                have hb7_ := hall 7 (by kernel_rfl)
                have hb8_ := hall 8 (by kernel_rfl)
                have hb9_ := hall 9 (by kernel_rfl)
                have hb10_ := hall 10 (by kernel_rfl)
                have hb11_ := hall 11 (by kernel_rfl)
                have hb12_ := hall 12 (by kernel_rfl)
                subst ha
                obtain rfl := Q_X10_ hb10_
                simp only [putSel, hb0_, hb1_, hb4_, hb5_, hb6_, hb7_, hb8_, hb9_, hb10_, hb11_, hb12_, if_true, Act.put, List.setIfInBounds_toArray, List.set_cons_zero, List.set_cons_succ]
                have HO_8 := Aside0.mk Q_HO_8
                clear Q_HO_8
                have BK104 := Aside0.mk Q_BK104
                clear Q_BK104
                have BK105 := Aside0.mk Q_BK105
                clear Q_BK105
                have BK106 := Aside0.mk Q_BK106
                clear Q_BK106
                have HB := Aside0.mk Q_HB
                clear Q_HB
                clear Q_BK116
                have GW116 := Aside0.mk (Q_GW116 hb10_)
                clear Q_GW116
                have GE116 := Aside0.mk (Q_GE116 hb10_)
                clear Q_GE116
                have NB104_116 := Aside0.mk (Q_NB104_116 hb10_)
                clear Q_NB104_116
                have NB116_104 := Aside0.mk (Q_NB116_104 hb10_)
                clear Q_NB116_104
                have NB105_116 := Aside0.mk (Q_NB105_116 hb10_)
                clear Q_NB105_116
                have NB116_105 := Aside0.mk (Q_NB116_105 hb10_)
                clear Q_NB116_105
                have NB106_116 := Aside0.mk (Q_NB106_116 hb10_)
                clear Q_NB106_116
                have NB116_106 := Aside0.mk (Q_NB116_106 hb10_)
                clear Q_NB116_106
                have BK116 := Aside0.mk (Q_BK116_e11 hb11_)
                clear Q_BK116_e11
                clear hall hb0_ hb1_ hb4_ hb5_ hb6_ hb7_ hb8_ hb9_ hb10_ hb11_ hb12_
                have hnb36 := NB116_104.out
                have hnc36 := NB104_116.out
                have hnb37 := NB116_105.out
                have hnc37 := NB105_116.out
                have hnb38 := NB116_106.out
                have hnc38 := NB106_116.out
                have hcz39_0 : w35.cell? ⟨gb116, 0, none⟩ = some (.int .i64 t111) := (blk_cell BK116.out 0).trans rfl
                have hcz39_1 : w35.cell? ⟨gb116, 1, none⟩ = some (.int .i64 t112) := (blk_cell BK116.out 1).trans rfl
                have hcz39_2 : w35.cell? ⟨gb116, 2, none⟩ = some (.int .i64 t113) := (blk_cell BK116.out 2).trans rfl
                have hcz39_3 : w35.cell? ⟨gb116, 3, none⟩ = some (.int .i64 t114) := (blk_cell BK116.out 3).trans rfl
                have hfz39_0 := blk_frozen BK116.out 0
                have hfz39_1 := blk_frozen BK116.out 1
                have hfz39_2 := blk_frozen BK116.out 2
                have hfz39_3 := blk_frozen BK116.out 3
                have hnb40 := NB105_104.out
                have hnc40 := NB104_105.out
                have hnb41 := NB105_106.out
                have hnc41 := NB106_105.out
                have hcz42_0 : w35.cell? ⟨gb105, 0, none⟩ = some (.int .i64 x106000_1) := (blk_cell BK105.out 0).trans rfl
                have hcz42_1 : w35.cell? ⟨gb105, 1, none⟩ = some (.int .i64 x106001_1) := (blk_cell BK105.out 1).trans rfl
                have hcz42_2 : w35.cell? ⟨gb105, 2, none⟩ = some (.int .i64 x106002_1) := (blk_cell BK105.out 2).trans rfl
                have hcz42_3 : w35.cell? ⟨gb105, 3, none⟩ = some (.int .i64 x106003_1) := (blk_cell BK105.out 3).trans rfl
                have hfz42_0 := blk_frozen BK105.out 0
                have hfz42_1 := blk_frozen BK105.out 1
                have hfz42_2 := blk_frozen BK105.out 2
                have hfz42_3 := blk_frozen BK105.out 3
                obtain ⟨Ao43, co43, eo43⟩ := Kd.R_slice HO_8.out
                subst eo43
                have p117 : 0 ≤ (x9_1 : Int) := of_decide_eq_true (by first | (with_reducible assumption) | assumption)
                have q117 : x9_1 < (x8_1.length : Int) := of_decide_eq_true (by first | (with_reducible assumption) | assumption)
                obtain ⟨ad117, e117, hx117_0⟩ := Kd.at_int (Kd.R_reads' HO_8.out).2.2 x9_1 p117 q117
                cases e117
                have hn117_0 : ad117.block ≠ gb105 := Kd.own_blk (Kd.R_ne HO_8.out BK105.out (by decide))
                have hn117_1 : ad117.block ≠ gb105 := Kd.own_blk (Kd.R_ne HO_8.out BK105.out (by decide))
                have hn117_2 : ad117.block ≠ gb105 := Kd.own_blk (Kd.R_ne HO_8.out BK105.out (by decide))
                have hn117_3 : ad117.block ≠ gb105 := Kd.own_blk (Kd.R_ne HO_8.out BK105.out (by decide))
                replace hx117_0 := (cell_far (p := ⟨gb105, 0, none⟩) (by first | (rw [add_block]; exact hn117_0) | (show (Addr.add _ _).block ≠ _; rw [add_block]; exact hn117_0) | exact hn117_0) (.int .i64 t111)).trans hx117_0
                replace hx117_0 := (cell_far (p := ⟨gb105, 1, none⟩) (by first | (rw [add_block]; exact hn117_1) | (show (Addr.add _ _).block ≠ _; rw [add_block]; exact hn117_1) | exact hn117_1) (.int .i64 t112)).trans hx117_0
                replace hx117_0 := (cell_far (p := ⟨gb105, 2, none⟩) (by first | (rw [add_block]; exact hn117_2) | (show (Addr.add _ _).block ≠ _; rw [add_block]; exact hn117_2) | exact hn117_2) (.int .i64 t113)).trans hx117_0
                replace hx117_0 := (cell_far (p := ⟨gb105, 3, none⟩) (by first | (rw [add_block]; exact hn117_3) | (show (Addr.add _ _).block ≠ _; rw [add_block]; exact hn117_3) | exact hn117_3) (.int .i64 t114)).trans hx117_0
                clear hn117_0
                clear hn117_1
                clear hn117_2
                clear hn117_3
                replace p117 := eq_true p117
                replace q117 := eq_true q117
                try go_wp2_with (first | ((with_reducible refine gate_builtin (b := .append) (xs := #[.tmp 34, .tmp 41]) rfl ?_); at_builtin; refine Kd.R_append (Kd.int .i64) (w0 := w) w.heap.size rfl (.tmp 34) (.tmp 41) 25 3 (.int .i64 0) 8 rfl Try.underlying25 info3 rfl (by decide) (by omega) (.slice (some ad117) x8_1.length co43) x8_1 (wrap64 ((rd x8_1 x9_1) + t115)) [.int .i64 (wrap64 ((rd x8_1 x9_1) + t115))] (fun _ => True) (fun _ => False) rfl (by first | (go_simp; done) | (go_simp; rfl)) ?aP (fun _ hk => hk.elim) ?aF ?aO ?aB ?aS ?aL ?_; (case aP => exact rfl); (case aB => exact (by repeat (first | (with_reducible first | exact HB.out | apply below_alloc | apply pw_below_drewN | apply below_drew1 | refine below_set ?_ GE104.out | refine below_set ?_ GE105.out | refine below_set ?_ GE106.out | refine below_set ?_ GE116.out) | exact HB.out))); (case aF => exact (fun _ _ => trivial)); (case aO => exact (by (with_reducible repeat (first | apply Kd.R_alloc | apply Kd.R_drewN | apply Kd.R_drew)); exact Kd.R_mono (Kd.R_far (p := ⟨gb105, 3, none⟩) (Kd.R_far (p := ⟨gb105, 2, none⟩) (Kd.R_far (p := ⟨gb105, 1, none⟩) (Kd.R_far (p := ⟨gb105, 0, none⟩) (Kd.R_types HO_8.out BK105.out (by decide)) (fun _ hk => hk.2) (.int .i64 t111)) (fun _ hk => hk.2) (.int .i64 t112)) (fun _ hk => hk.2) (.int .i64 t113)) (fun _ hk => hk.2) (.int .i64 t114)) (fun _ hk => trivial))); (case aS => exact (below_size (by repeat (first | (with_reducible first | exact HB.out | apply below_alloc | apply pw_below_drewN | apply below_drew1 | refine below_set ?_ GE104.out | refine below_set ?_ GE105.out | refine below_set ?_ GE106.out | refine below_set ?_ GE116.out) | exact HB.out)))); (case aL => have := LMc27.out; omega); intro v119 w44 ho hb hg hat; rw [← Ny118.out] at ho; have n0_ := Aside0.mk (blk_grown (g := gb104) (o := .cells #[.int .i64 a0_0, .int .i64 a0_1, .int .i64 a0_2, .int .i64 a0_3] 28 (0, 0)) (by (with_reducible repeat (first | refine blk_drewN ?_ _ | refine blk_drew ?_ | refine blk_alloc ?_ _)); refine blk_far ?_ NB104_105.out _; (with_reducible repeat (first | refine blk_drewN ?_ _ | refine blk_drew ?_ | refine blk_alloc ?_ _)); refine blk_far ?_ NB104_105.out _; (with_reducible repeat (first | refine blk_drewN ?_ _ | refine blk_drew ?_ | refine blk_alloc ?_ _)); refine blk_far ?_ NB104_105.out _; (with_reducible repeat (first | refine blk_drewN ?_ _ | refine blk_drew ?_ | refine blk_alloc ?_ _)); refine blk_far ?_ NB104_105.out _; (with_reducible repeat (first | refine blk_drewN ?_ _ | refine blk_drew ?_ | refine blk_alloc ?_ _)); exact BK104.out) hg (Kd.R_ne HO_8.out BK104.out (by decide))); have n1_ := Aside0.mk (blk_grown (g := gb105) (o := .cells #[.int .i64 t111, .int .i64 t112, .int .i64 t113, .int .i64 t114] 22 (0, 0)) (by (with_reducible repeat (first | refine blk_drewN ?_ _ | refine blk_drew ?_ | refine blk_alloc ?_ _)); refine blk_put (cs := #[.int .i64 t111, .int .i64 t112, .int .i64 t113, .int .i64 x106003_1]) ?_ 3 _ rfl; (with_reducible repeat (first | refine blk_drewN ?_ _ | refine blk_drew ?_ | refine blk_alloc ?_ _)); refine blk_put (cs := #[.int .i64 t111, .int .i64 t112, .int .i64 x106002_1, .int .i64 x106003_1]) ?_ 2 _ rfl; (with_reducible repeat (first | refine blk_drewN ?_ _ | refine blk_drew ?_ | refine blk_alloc ?_ _)); refine blk_put (cs := #[.int .i64 t111, .int .i64 x106001_1, .int .i64 x106002_1, .int .i64 x106003_1]) ?_ 1 _ rfl; (with_reducible repeat (first | refine blk_drewN ?_ _ | refine blk_drew ?_ | refine blk_alloc ?_ _)); refine blk_put (cs := #[.int .i64 x106000_1, .int .i64 x106001_1, .int .i64 x106002_1, .int .i64 x106003_1]) ?_ 0 _ rfl; (with_reducible repeat (first | refine blk_drewN ?_ _ | refine blk_drew ?_ | refine blk_alloc ?_ _)); exact BK105.out) hg (Kd.R_ne HO_8.out BK105.out (by decide))); have n2_ := Aside0.mk (blk_grown (g := gb106) (o := .cells #[.int .i64 x107000_1, .int .i64 x107001_1, .int .i64 x107002_1, .int .i64 x107003_1] 22 (0, 0)) (by (with_reducible repeat (first | refine blk_drewN ?_ _ | refine blk_drew ?_ | refine blk_alloc ?_ _)); refine blk_far ?_ NB106_105.out _; (with_reducible repeat (first | refine blk_drewN ?_ _ | refine blk_drew ?_ | refine blk_alloc ?_ _)); refine blk_far ?_ NB106_105.out _; (with_reducible repeat (first | refine blk_drewN ?_ _ | refine blk_drew ?_ | refine blk_alloc ?_ _)); refine blk_far ?_ NB106_105.out _; (with_reducible repeat (first | refine blk_drewN ?_ _ | refine blk_drew ?_ | refine blk_alloc ?_ _)); refine blk_far ?_ NB106_105.out _; (with_reducible repeat (first | refine blk_drewN ?_ _ | refine blk_drew ?_ | refine blk_alloc ?_ _)); exact BK106.out) hg (Kd.R_ne HO_8.out BK106.out (by decide))); have n3_ := Aside0.mk (blk_grown (g := gb116) (o := .cells #[.int .i64 t111, .int .i64 t112, .int .i64 t113, .int .i64 t114] 22 (0, 0)) (by (with_reducible repeat (first | refine blk_drewN ?_ _ | refine blk_drew ?_ | refine blk_alloc ?_ _)); refine blk_far ?_ NB116_105.out _; (with_reducible repeat (first | refine blk_drewN ?_ _ | refine blk_drew ?_ | refine blk_alloc ?_ _)); refine blk_far ?_ NB116_105.out _; (with_reducible repeat (first | refine blk_drewN ?_ _ | refine blk_drew ?_ | refine blk_alloc ?_ _)); refine blk_far ?_ NB116_105.out _; (with_reducible repeat (first | refine blk_drewN ?_ _ | refine blk_drew ?_ | refine blk_alloc ?_ _)); refine blk_far ?_ NB116_105.out _; (with_reducible repeat (first | refine blk_drewN ?_ _ | refine blk_drew ?_ | refine blk_alloc ?_ _)); exact BK116.out) hg (Kd.R_ne HO_8.out BK116.out (by decide))); have n4_ := Aside0.mk (hb); have n5_ := Aside0.mk (ho); clear BK104; clear BK105; clear BK106; clear BK116; clear HB; clear HO_8; have BK104 := n0_; have BK105 := n1_; have BK106 := n2_; have BK116 := n3_; have HB := n4_; have HO120 := n5_; clear n0_ n1_ n2_ n3_ n4_ n5_; clear ho hb hg hat))
                go_roundg k1
                case measure => have := HK1.out; omega
                case rel => exact ⟨(y118), (wrap64 (x9_1 + 1)), (t111), (t112), (t113), (t114), (x107000_1), (x107001_1), (x107002_1), (x107003_1), (by first | rfl | (simp; done) | (simp [*]; done)), H', ⟨by have := HK1.out; omega⟩, ⟨by (with_reducible repeat (first | apply Kd.R_alloc | apply Kd.R_drewN | apply Kd.R_drew)); exact HO120.out⟩, ⟨by (with_reducible repeat (first | refine blk_drewN ?_ _ | refine blk_drew ?_ | refine blk_alloc ?_ _)); exact BK104.out⟩, ⟨by (with_reducible repeat (first | refine blk_drewN ?_ _ | refine blk_drew ?_ | refine blk_alloc ?_ _)); exact BK105.out⟩, ⟨by (with_reducible repeat (first | refine blk_drewN ?_ _ | refine blk_drew ?_ | refine blk_alloc ?_ _)); exact BK106.out⟩, ⟨by repeat (first | (with_reducible first | exact HB.out | apply below_alloc | apply pw_below_drewN | apply below_drew1 | refine below_set ?_ GE104.out | refine below_set ?_ GE105.out | refine below_set ?_ GE106.out | refine below_set ?_ GE116.out) | exact HB.out)⟩⟩
              · rw [if_neg c27] at H
                exact absurd H (by simp)
            · rw [if_neg c26] at H
              exact absurd H (by simp)
        · rw [if_neg c10] at H
          exact absurd H (by simp)
      · rw [if_neg c9] at H
        have c9b0 : decide (x9_1 < (l2.length : Int)) = false := decide_eq_false c9
        clear c9
        simp only [Option.some.injEq, Prod.mk.injEq] at H
        obtain ⟨rfl, rfl, rfl, rfl, rfl⟩ := H
        try go_wp2
        have n0_ := Aside0.mk (Kd.R_drew HO_8.out)
        have n1_ := Aside0.mk (blk_drew BK104.out)
        have n2_ := Aside0.mk (blk_drew BK105.out)
        have n3_ := Aside0.mk (blk_drew BK106.out)
        have n4_ := Aside0.mk (below_drew1 HB.out)
        clear HO_8
        clear BK104
        clear BK105
        clear BK106
        clear HB
        have HO_8 := n0_
        have BK104 := n1_
        have BK105 := n2_
        have BK106 := n3_
        have HB := n4_
        clear n0_ n1_ n2_ n3_ n4_
        refine start_ (n := 4) (S := fun w' => w'.cell? ⟨gb105, 0, none⟩ = some (.int .i64 x106000_1) ∧ w'.cell? ⟨gb105, 1, none⟩ = some (.int .i64 x106001_1) ∧ w'.cell? ⟨gb105, 2, none⟩ = some (.int .i64 x106002_1) ∧ w'.cell? ⟨gb105, 3, none⟩ = some (.int .i64 x106003_1)) (ds := []) #[false, false, false, false] (by kernel_rfl) rfl rfl ⟨(blk_cell BK105.out 0).trans rfl, (blk_cell BK105.out 1).trans rfl, (blk_cell BK105.out 2).trans rfl, (blk_cell BK105.out 3).trans rfl⟩ (fun hHeld => ?_)
        generalize wr.drew = w45 at HO_8 BK104 BK105 BK106 HB hHeld ⊢
        refine pure_ (i := 0) (N := some 43) (v := ?_) (a' := ?_) #[true, false, false, false] rfl rfl (by kernel_rfl) (fun _ _ _ h => h) (Or.inl ⟨by rfl, ?_⟩) ?_ ?_
        rotate_left
        · intro w'
          go_simp
          with_reducible rfl
        rotate_left
        · simp only [Act.put, List.setIfInBounds_toArray, List.set_cons_zero, List.set_cons_succ, i64_w, i32_w]
          rfl
        refine pure_ (i := 2) (N := some 6) (v := ?_) (a' := ?_) #[true, false, true, false] rfl rfl (by kernel_rfl) (fun _ _ _ h => h) (Or.inl ⟨by rfl, ?_⟩) ?_ ?_
        rotate_left
        · intro w'
          go_simp
          with_reducible rfl
        rotate_left
        · simp only [Act.put, List.setIfInBounds_toArray, List.set_cons_zero, List.set_cons_succ, i64_w, i32_w]
          rfl
        refine take_ (i := 1) (N := some 44) (v := ?_) (a' := ?_) #[true, true, true, false] rfl rfl (by kernel_rfl) (fun _ _ _ h => h) (Or.inl ⟨by rfl, ?_⟩) hHeld ?_ ?_
        rotate_left
        · rintro w' ⟨s0, s1, s2, s3⟩
          go_simp
          with_reducible rfl
        rotate_left
        · simp only [Act.put, List.setIfInBounds_toArray, List.set_cons_zero, List.set_cons_succ, i64_w, i32_w]
          rfl
        refine one_ (i := 3) (N := none) #[true, true, true, true] rfl rfl (by kernel_rfl) (by decide) (fun K hK => ?_)
        have hs46 : w45.cell? ⟨gb106, 0, none⟩ = some (.int .i64 x107000_1) := (blk_cell BK106.out 0).trans rfl
        have hfs46 := blk_frozen BK106.out 0
        have hns46_0 := NB104_106.out
        have hns46_1 := NB105_106.out
        have hms46_0 := NB106_104.out
        have hms46_1 := NB106_105.out
        have hs47 : w45.cell? ⟨gb106, 1, none⟩ = some (.int .i64 x107001_1) := (blk_cell BK106.out 1).trans rfl
        have hfs47 := blk_frozen BK106.out 1
        have hns47_0 := NB104_106.out
        have hns47_1 := NB105_106.out
        have hms47_0 := NB106_104.out
        have hms47_1 := NB106_105.out
        have hs48 : w45.cell? ⟨gb106, 2, none⟩ = some (.int .i64 x107002_1) := (blk_cell BK106.out 2).trans rfl
        have hfs48 := blk_frozen BK106.out 2
        have hns48_0 := NB104_106.out
        have hns48_1 := NB105_106.out
        have hms48_0 := NB106_104.out
        have hms48_1 := NB106_105.out
        have hs49 : w45.cell? ⟨gb106, 3, none⟩ = some (.int .i64 x107003_1) := (blk_cell BK106.out 3).trans rfl
        have hfs49 := blk_frozen BK106.out 3
        have hns49_0 := NB104_106.out
        have hns49_1 := NB105_106.out
        have hms49_0 := NB106_104.out
        have hms49_1 := NB106_105.out
        refine skip_ (w1 := ?_) (by rfl) rfl ?_ ?_
        rotate_left
        · go_simp
          rfl
        refine hK.out _ _ ⟨((cell_far (p := ⟨gb106, _, none⟩) NB105_106.out _).trans (((cell_far (p := ⟨gb106, _, none⟩) NB105_106.out _).trans (((cell_far (p := ⟨gb106, _, none⟩) NB105_106.out _).trans (((cell_far (p := ⟨gb106, _, none⟩) NB105_106.out _).trans (hHeld.1)))))))), ((cell_far (p := ⟨gb106, _, none⟩) NB105_106.out _).trans (((cell_far (p := ⟨gb106, _, none⟩) NB105_106.out _).trans (((cell_far (p := ⟨gb106, _, none⟩) NB105_106.out _).trans (((cell_far (p := ⟨gb106, _, none⟩) NB105_106.out _).trans (hHeld.2.1)))))))), ((cell_far (p := ⟨gb106, _, none⟩) NB105_106.out _).trans (((cell_far (p := ⟨gb106, _, none⟩) NB105_106.out _).trans (((cell_far (p := ⟨gb106, _, none⟩) NB105_106.out _).trans (((cell_far (p := ⟨gb106, _, none⟩) NB105_106.out _).trans (hHeld.2.2.1)))))))), ((cell_far (p := ⟨gb106, _, none⟩) NB105_106.out _).trans (((cell_far (p := ⟨gb106, _, none⟩) NB105_106.out _).trans (((cell_far (p := ⟨gb106, _, none⟩) NB105_106.out _).trans (((cell_far (p := ⟨gb106, _, none⟩) NB105_106.out _).trans (hHeld.2.2.2))))))))⟩ (fun hHeld => ?_)
        clear hK K
        refine done_ (by kernel_rfl) ?_
        try go_wp2
        refine bodyPost_ret (results_tc rfl _ _ gb106 22 #[.int .i64 x106000_1, .int .i64 x106001_1, .int .i64 x106002_1, .int .i64 x106003_1] (0, 0) _ rfl (by (with_reducible repeat (first | refine blk_drewN ?_ _ | refine blk_drew ?_ | refine blk_alloc ?_ _)); refine blk_put (cs := #[.int .i64 x106000_1, .int .i64 x106001_1, .int .i64 x106002_1, .int .i64 x107003_1]) ?_ 3 _ rfl; (with_reducible repeat (first | refine blk_drewN ?_ _ | refine blk_drew ?_ | refine blk_alloc ?_ _)); refine blk_put (cs := #[.int .i64 x106000_1, .int .i64 x106001_1, .int .i64 x107002_1, .int .i64 x107003_1]) ?_ 2 _ rfl; (with_reducible repeat (first | refine blk_drewN ?_ _ | refine blk_drew ?_ | refine blk_alloc ?_ _)); refine blk_put (cs := #[.int .i64 x106000_1, .int .i64 x107001_1, .int .i64 x107002_1, .int .i64 x107003_1]) ?_ 1 _ rfl; (with_reducible repeat (first | refine blk_drewN ?_ _ | refine blk_drew ?_ | refine blk_alloc ?_ _)); refine blk_put (cs := #[.int .i64 x107000_1, .int .i64 x107001_1, .int .i64 x107002_1, .int .i64 x107003_1]) ?_ 0 _ rfl; (with_reducible repeat (first | refine blk_drewN ?_ _ | refine blk_drew ?_ | refine blk_alloc ?_ _)); exact BK106.out) Try.underlying22 rfl (by kernel_rfl)) rfl ?_
        exact ⟨_, by first | rfl | (simp [errW_none, errW_some] <;> rfl) | (simp [*, errW_none, errW_some] <;> rfl), by (with_reducible repeat (first | apply Kd.R_alloc | apply Kd.R_drewN | apply Kd.R_drew)); exact Kd.R_mono (Kd.R_far (p := ⟨gb106, 3, none⟩) (Kd.R_far (p := ⟨gb106, 2, none⟩) (Kd.R_far (p := ⟨gb106, 1, none⟩) (Kd.R_far (p := ⟨gb106, 0, none⟩) (Kd.R_types HO_8.out BK106.out (by decide)) (fun _ hk => hk.2) (.int .i64 x106000_1)) (fun _ hk => hk.2) (.int .i64 x106001_1)) (fun _ hk => hk.2) (.int .i64 x106002_1)) (fun _ hk => hk.2) (.int .i64 x106003_1)) (fun _ hk => trivial), by repeat (first | (with_reducible first | exact HB.out | apply below_alloc | apply pw_below_drewN | apply below_drew1 | refine below_set ?_ GE104.out | refine below_set ?_ GE105.out | refine below_set ?_ GE106.out) | exact HB.out)⟩

end Go.Proofs.Ytohbmlhaaagfhaa.QAll
