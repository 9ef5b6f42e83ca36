/- Texts behind a row, merged by a program of this repo. No statement of the seat is proved here. -/
import Derived.Test.YtlhodfjdmafapaaZSpanEnd1
import Derived.Test.YtlhodfjdmafapaaZSpanEnd0
import Derived.Test.YtlhodfjdmafapaaWLast
section
namespace Go.Proofs.Ytlhodfjdmafapaa.QMs
open Go.RowKit Go.Proofs.YtlhodfjdmafapaaW.PrintWords Go.Proofs.YtlhodfjdmafapaaW.PrintLast Go.Proofs.YtlhodfjdmafapaaW.PrintMore
attribute [local go_sem] max2_int min2_int max_two min_two max_three min_three max_four min_four   -- for this text's walks alone
set_option linter.unusedVariables false
set_option linter.unusedSimpArgs false
/-! ### spec_l4Measured: function 53 -/
mutual
def spec_l4Measured.l0 : Nat → Int → Int → List (List (S98)) → Int → Int → Int → Int → Int → Option ((List (List Bool)))
 | 0, _, _, _, _, _, _, _, _ => none
 | k + 1, x1, x5, x6, x7, x119000, x119001, x119002, x119003 => if x7 < x5 then ((xL4Sand.f x119000 x119001 x119002 x119003 x7).bind fun bt123 => ((spec_l4Next.f k x119000 x119001 x119002 x119003 bt123.1 bt123.2.1 bt123.2.2.1 bt123.2.2.2).bind fun t127 => (if x6.length < 5864062014805 then (spec_l4Measured.l0 k x1 x5 (x6 ++ [t127]) (wrap64 (x7 + 1)) x119000 x119001 x119002 x119003) else (none)))) else (if 0 ≤ x5 then (if (x5 : Int).toNat ≤ 281474976710656 then (spec_l4Measured.l1 k x1 x5 x6 (([(List.replicate (x5 : Int).toNat false)] : List (List Bool))) 1) else (none)) else (none))
def spec_l4Measured.l1 : Nat → Int → Int → List (List (S98)) → List (List Bool) → Int → Option ((List (List Bool)))
 | 0, _, _, _, _, _ => none
 | k + 1, x1, x5, x6, x8, x9 => if x9 ≤ x1 then (if 0 ≤ x5 then (if (x5 : Int).toNat ≤ 281474976710656 then (spec_l4Measured.l2 k x1 x5 x6 x8 x9 (List.replicate (x5 : Int).toNat false) 0) else (none)) else (none)) else (some x8)
def spec_l4Measured.l2 : Nat → Int → Int → List (List (S98)) → List (List Bool) → Int → List Bool → Int → Option ((List (List Bool)))
 | 0, _, _, _, _, _, _, _ => none
 | k + 1, x1, x5, x6, x8, x9, x10, x11 => if x11 < x5 then (spec_l4Measured.l3 k x1 x5 x6 x8 x9 x10 x11 0) else (if x8.length < 5864062014805 then (spec_l4Measured.l1 k x1 x5 x6 (x8 ++ [x10]) (wrap64 (x9 + 1))) else (none))
def spec_l4Measured.l3 : Nat → Int → Int → List (List (S98)) → List (List Bool) → Int → List Bool → Int → Int → Option ((List (List Bool)))
 | 0, _, _, _, _, _, _, _, _ => none
 | k + 1, x1, x5, x6, x8, x9, x10, x11, x12 => if 0 ≤ x11 then (if x11 < (x6.length : Int) then (if x12 < ((rd_L5 x6 x11).length : Int) then (if x11 < (x10.length : Int) then (if rdOf false x10 x11 = true then (spec_l4Measured.l2 k x1 x5 x6 x8 x9 x10 (wrap64 (x11 + 1))) else (if 0 ≤ x12 then (if ((rd_T98 (rd_L5 x6 x11) x12).f1) = x9 then (spec_l4Measured.l3 k x1 x5 x6 x8 x9 (x10.set (x11 : Int).toNat true) x11 (wrap64 (x12 + 1))) else (if ((rd_T98 (rd_L5 x6 x11) x12).f1) < x9 then (if 0 ≤ (wrap64 (x9 - ((rd_T98 (rd_L5 x6 x11) x12).f1))) then (if (wrap64 (x9 - ((rd_T98 (rd_L5 x6 x11) x12).f1))) < (x8.length : Int) then (if 0 ≤ ((rd_T98 (rd_L5 x6 x11) x12).f0) then (if ((rd_T98 (rd_L5 x6 x11) x12).f0) < ((rd_L6 x8 (wrap64 (x9 - ((rd_T98 (rd_L5 x6 x11) x12).f1)))).length : Int) then (spec_l4Measured.l3 k x1 x5 x6 x8 x9 (x10.set (x11 : Int).toNat (rdOf false (rd_L6 x8 (wrap64 (x9 - ((rd_T98 (rd_L5 x6 x11) x12).f1)))) ((rd_T98 (rd_L5 x6 x11) x12).f0))) x11 (wrap64 (x12 + 1))) else (none)) else (none)) else (none)) else (none)) else (spec_l4Measured.l3 k x1 x5 x6 x8 x9 (x10.set (x11 : Int).toNat false) x11 (wrap64 (x12 + 1))))) else (none))) else (none)) else (spec_l4Measured.l2 k x1 x5 x6 x8 x9 x10 (wrap64 (x11 + 1)))) else (none)) else (none)
end
def spec_l4Measured.f (k : Nat) (a0_0 : Int) (a0_1 : Int) (a0_2 : Int) (a0_3 : Int) (a1 : Int) : Option ((List (List Bool))) := (xL4Many.f a0_0 a0_1 a0_2 a0_3).bind fun t119 => (spec_l4Measured.l0 k a1 t119 (([] : List (List (S98)))) 0 a0_0 a0_1 a0_2 a0_3)
theorem spec_l4Measured.mono_l : ∀ k, (∀ y0 y1 y2 y3 y4 y5 y6 y7, LeO (spec_l4Measured.l0 k y0 y1 y2 y3 y4 y5 y6 y7) (spec_l4Measured.l0 (k + 1) y0 y1 y2 y3 y4 y5 y6 y7)) ∧ (∀ y0 y1 y2 y3 y4, LeO (spec_l4Measured.l1 k y0 y1 y2 y3 y4) (spec_l4Measured.l1 (k + 1) y0 y1 y2 y3 y4)) ∧ (∀ y0 y1 y2 y3 y4 y5 y6, LeO (spec_l4Measured.l2 k y0 y1 y2 y3 y4 y5 y6) (spec_l4Measured.l2 (k + 1) y0 y1 y2 y3 y4 y5 y6)) ∧ (∀ y0 y1 y2 y3 y4 y5 y6 y7, LeO (spec_l4Measured.l3 k y0 y1 y2 y3 y4 y5 y6 y7) (spec_l4Measured.l3 (k + 1) y0 y1 y2 y3 y4 y5 y6 y7))
 | 0 => ⟨fun _ _ _ _ _ _ _ _ r h => by simp [spec_l4Measured.l0] at h, fun _ _ _ _ _ r h => by simp [spec_l4Measured.l1] at h, fun _ _ _ _ _ _ _ r h => by simp [spec_l4Measured.l2] at h, fun _ _ _ _ _ _ _ _ r h => by simp [spec_l4Measured.l3] at h⟩
 | k + 1 => by
  obtain ⟨ih0, ih1, ih2, ih3⟩ := spec_l4Measured.mono_l k
  refine ⟨?_, ?_, ?_, ?_⟩
  ·intro y0 y1 y2 y3 y4 y5 y6 y7
   unfold spec_l4Measured.l0
   repeat' first
   | (with_reducible exact ih0 _ _ _ _ _ _ _ _)
   | (with_reducible exact ih1 _ _ _ _ _)
   | (with_reducible exact ih2 _ _ _ _ _ _ _)
   | (with_reducible exact ih3 _ _ _ _ _ _ _ _)
   | (with_reducible exact spec_l4Next.mono _ _ _ _ _ _ _ _ _)
   | (with_reducible exact LeO.refl _)
   | (with_reducible exact LeO.none _)
   | (with_reducible refine LeO.ite ?_ ?_)
   | (with_reducible refine LeO.bind ?_ (fun _ => ?_))
   | exact ih0 _ _ _ _ _ _ _ _
   | exact ih1 _ _ _ _ _
   | exact ih2 _ _ _ _ _ _ _
   | exact ih3 _ _ _ _ _ _ _ _
   | exact spec_l4Next.mono _ _ _ _ _ _ _ _ _
   | exact LeO.none _
   | refine LeO.ite ?_ ?_
   | refine LeO.bind ?_ (fun _ => ?_)
  ·intro y0 y1 y2 y3 y4
   unfold spec_l4Measured.l1
   repeat' first
   | (with_reducible exact ih0 _ _ _ _ _ _ _ _)
   | (with_reducible exact ih1 _ _ _ _ _)
   | (with_reducible exact ih2 _ _ _ _ _ _ _)
   | (with_reducible exact ih3 _ _ _ _ _ _ _ _)
   | (with_reducible exact spec_l4Next.mono _ _ _ _ _ _ _ _ _)
   | (with_reducible exact LeO.refl _)
   | (with_reducible exact LeO.none _)
   | (with_reducible refine LeO.ite ?_ ?_)
   | (with_reducible refine LeO.bind ?_ (fun _ => ?_))
   | exact ih0 _ _ _ _ _ _ _ _
   | exact ih1 _ _ _ _ _
   | exact ih2 _ _ _ _ _ _ _
   | exact ih3 _ _ _ _ _ _ _ _
   | exact spec_l4Next.mono _ _ _ _ _ _ _ _ _
   | exact LeO.none _
   | refine LeO.ite ?_ ?_
   | refine LeO.bind ?_ (fun _ => ?_)
  ·intro y0 y1 y2 y3 y4 y5 y6
   unfold spec_l4Measured.l2
   repeat' first
   | (with_reducible exact ih0 _ _ _ _ _ _ _ _)
   | (with_reducible exact ih1 _ _ _ _ _)
   | (with_reducible exact ih2 _ _ _ _ _ _ _)
   | (with_reducible exact ih3 _ _ _ _ _ _ _ _)
   | (with_reducible exact spec_l4Next.mono _ _ _ _ _ _ _ _ _)
   | (with_reducible exact LeO.refl _)
   | (with_reducible exact LeO.none _)
   | (with_reducible refine LeO.ite ?_ ?_)
   | (with_reducible refine LeO.bind ?_ (fun _ => ?_))
   | exact ih0 _ _ _ _ _ _ _ _
   | exact ih1 _ _ _ _ _
   | exact ih2 _ _ _ _ _ _ _
   | exact ih3 _ _ _ _ _ _ _ _
   | exact spec_l4Next.mono _ _ _ _ _ _ _ _ _
   | exact LeO.none _
   | refine LeO.ite ?_ ?_
   | refine LeO.bind ?_ (fun _ => ?_)
  ·intro y0 y1 y2 y3 y4 y5 y6 y7
   unfold spec_l4Measured.l3
   repeat' first
   | (with_reducible exact ih0 _ _ _ _ _ _ _ _)
   | (with_reducible exact ih1 _ _ _ _ _)
   | (with_reducible exact ih2 _ _ _ _ _ _ _)
   | (with_reducible exact ih3 _ _ _ _ _ _ _ _)
   | (with_reducible exact spec_l4Next.mono _ _ _ _ _ _ _ _ _)
   | (with_reducible exact LeO.refl _)
   | (with_reducible exact LeO.none _)
   | (with_reducible refine LeO.ite ?_ ?_)
   | (with_reducible refine LeO.bind ?_ (fun _ => ?_))
   | exact ih0 _ _ _ _ _ _ _ _
   | exact ih1 _ _ _ _ _
   | exact ih2 _ _ _ _ _ _ _
   | exact ih3 _ _ _ _ _ _ _ _
   | exact spec_l4Next.mono _ _ _ _ _ _ _ _ _
   | exact LeO.none _
   | refine LeO.ite ?_ ?_
   | refine LeO.bind ?_ (fun _ => ?_)
theorem spec_l4Measured.mono : ∀ a0 a1 a2 a3 a4 k, LeO (spec_l4Measured.f k a0 a1 a2 a3 a4) (spec_l4Measured.f (k + 1) a0 a1 a2 a3 a4) := by
 intro a0 a1 a2 a3 a4 k
 obtain ⟨ih0, ih1, ih2, ih3⟩ := spec_l4Measured.mono_l k
 unfold spec_l4Measured.f
 repeat' first
   | (with_reducible exact ih0 _ _ _ _ _ _ _ _)
   | (with_reducible exact ih1 _ _ _ _ _)
   | (with_reducible exact ih2 _ _ _ _ _ _ _)
   | (with_reducible exact ih3 _ _ _ _ _ _ _ _)
   | (with_reducible exact spec_l4Next.mono _ _ _ _ _ _ _ _ _)
   | (with_reducible exact LeO.refl _)
   | (with_reducible exact LeO.none _)
   | (with_reducible refine LeO.ite ?_ ?_)
   | (with_reducible refine LeO.bind ?_ (fun _ => ?_))
   | exact ih0 _ _ _ _ _ _ _ _
   | exact ih1 _ _ _ _ _
   | exact ih2 _ _ _ _ _ _ _
   | exact ih3 _ _ _ _ _ _ _ _
   | exact spec_l4Next.mono _ _ _ _ _ _ _ _ _
   | exact LeO.none _
   | refine LeO.ite ?_ ?_
   | refine LeO.bind ?_ (fun _ => ?_)
def spec_l4Measured.T6 : Bool × List (List Nat × List Nat) := (true, [([], []), ([], []), ([], []), ([], []), ([2, 3], [2, 3]), ([1, 4, 4], [1, 4]), ([5], [5]), ([0, 6, 5], [0, 6]), ([7, 7, 0, 1, 2, 3, 4, 5, 6, 7], [0, 7])])
def spec_l4Measured.B6 : List Nat := [0, 0, 0, 0, 12, 30, 62, 127, 255]
theorem spec_l4Measured.tab6 : rtab .any (opsOf Try.f53 6) = spec_l4Measured.T6 := by kernel_rfl
theorem spec_l4Measured.bits6 : waitsOk spec_l4Measured.T6.2 spec_l4Measured.B6 = true := by kernel_rfl
def spec_l4Measured.T19 : Bool × List (List Nat × List Nat) := (true, [([], []), ([], []), ([], []), ([], []), ([2, 3], [2, 3]), ([4], [4]), ([5], [5]), ([5], [5]), ([6, 7, 5], [5, 6, 7]), ([8, 5, 5], [5, 8]), ([9], [9]), ([9], [9]), ([9], [9]), ([11, 12, 9], [9, 11, 12]), ([10, 13, 9], [9, 10, 13]), ([14, 9], [9, 14]), ([9], [9]), ([9], [9]), ([16, 17, 9], [9, 16, 17]), ([18, 9], [9, 18]), ([9], [9]), ([19, 20, 9], [9, 19, 20]), ([21, 9], [9, 21]), ([22, 9], [9, 22]), ([15, 23, 9], [9, 15, 23]), ([24, 9], [9, 24]), ([9, 25, 5], [5, 9, 25]), ([5, 26], [5, 26]), ([0, 1, 0, 1, 2, 3, 4, 5, 6, 7, 8, 9, 10, 11, 12, 13, 14, 15, 16, 17, 18, 19, 20, 21, 22, 23, 24, 25, 26, 27], [0, 1]), ([28, 27, 9, 0, 1, 2, 3, 4, 5, 6, 7, 8, 9, 10, 11, 12, 13, 14, 15, 16, 17, 18, 19, 20, 21, 22, 23, 24, 25, 26, 27], [27, 28])])
def spec_l4Measured.B19 : List Nat := [0, 0, 0, 0, 12, 28, 60, 60, 252, 508, 1020, 1020, 1020, 7164, 16380, 32764, 1020, 1020, 197628, 459772, 1020, 2032636, 4129788, 8324092, 16777212, 33554428, 67108860, 134217724, 268435455, 536870911]
theorem spec_l4Measured.tab19 : rtab .any (opsOf Try.f53 19) = spec_l4Measured.T19 := by kernel_rfl
theorem spec_l4Measured.bits19 : waitsOk spec_l4Measured.T19.2 spec_l4Measured.B19 = true := by kernel_rfl
set_option maxHeartbeats 8000000 in
set_option maxRecDepth 100000 in
theorem spec_l4Measured.calls (k : Nat) (a0_0 : Int) (a0_1 : Int) (a0_2 : Int) (a0_3 : Int) (a1 : Int) (r : List (List Bool)) (w : World) (h : spec_l4Measured.f k a0_0 a0_1 a0_2 a0_3 a1 = some r) :
  Calls Try.prog 53 #[.agg #[.int .i64 a0_0, .int .i64 a0_1, .int .i64 a0_2, .int .i64 a0_3], .int .i64 a1] w fun e w' => ∃ v0_ : Value, e = .returned (v0_) ∧ Kd.N (Kd.slice 4 Kd.bool) 60 w' w.heap.size (fun k_ => (w.heap.size ≤ k_)) v0_ r ∧ Below w.heap.size w w' := by
 have hu27 := Try.underlying27
 have HB := Aside0.mk (Below.refl w.heap.size w)
 have H : ((xL4Many.f a0_0 a0_1 a0_2 a0_3).bind fun t119 => (spec_l4Measured.l0 k a1 t119 (([] : List (List (S98)))) 0 a0_0 a0_1 a0_2 a0_3)) = some r := h
 clear h
 replace H := Option.bind_eq_some_iff.mp H
 obtain ⟨t119, A30, H⟩ := H
 replace H : (spec_l4Measured.l0 k a1 t119 (([] : List (List (S98)))) 0 a0_0 a0_1 a0_2 a0_3) = some r := H
 have A3 := Aside0.mk A30
 clear A30
 obtain ⟨y120, hy120⟩ : ∃ y_ : List (List (S98)), y_ = (([] : List (List (S98)))) := ⟨_, rfl⟩
 replace H : (spec_l4Measured.l0 k a1 t119 y120 0 a0_0 a0_1 a0_2 a0_3) = some r := by first | (rw [hy120]; with_reducible exact H) | (have H2_ := (Option.bind_some _ _).symm.trans H; rw [hy120]; with_reducible exact H2_) | (have H2_ := (Option.bind_some _ _).symm.trans H; with_reducible exact H2_) | with_reducible exact H | (rw [hy120]; exact H) | exact H
 have Ny120 := Aside0.mk hy120
 clear hy120
 have H' := Aside0.mk H
 clear H
 go_enter Try.func53, Try.ntmps53
 go_wp2_with (first | ((with_reducible refine gate_dst (N := 2) rfl ?_); refine box_event ?hg (N := 2) ?hd (cs := #[.int .i64 a0_0, .int .i64 a0_1, .int .i64 a0_2, .int .i64 a0_3]) (t := 27) ?hr ?_; (case hd => rfl); (case hg => rfl); (case hr => first | (go_simp; done) | (go_simp; rfl)); intro gb118 hg w4 hbox hb; have n0_ := Aside0.mk (below_step (by repeat (first | (with_reducible first | exact HB.out | apply below_alloc | apply pw_below_drewN | apply below_drew1) | exact HB.out)) hb); have n1_ := Aside0.mk (hbox); have n2_ := Aside0.mk ((by rw [hg]; exact (below_size (by repeat (first | (with_reducible first | exact HB.out | apply below_alloc | apply pw_below_drewN | apply below_drew1) | exact HB.out))) : w.heap.size ≤ gb118)); have n3_ := Aside0.mk ((by rw [hg]; exact (below_size (by repeat (first | (with_reducible first | exact HB.out | apply below_alloc | apply pw_below_drewN | apply below_drew1) | exact HB.out))) : w.heap.size ≤ gb118)); clear HB; have HB := n0_; have BK118 := n1_; have GW118 := n2_; have GE118 := n3_; clear n0_ n1_ n2_ n3_; clear hb hbox hg; have hcz5_0 : w4.cell? ⟨gb118, 0, none⟩ = some (.int .i64 a0_0) := (blk_cell BK118.out 0).trans rfl; have hcz5_1 : w4.cell? ⟨gb118, 1, none⟩ = some (.int .i64 a0_1) := (blk_cell BK118.out 1).trans rfl; have hcz5_2 : w4.cell? ⟨gb118, 2, none⟩ = some (.int .i64 a0_2) := (blk_cell BK118.out 2).trans rfl; have hcz5_3 : w4.cell? ⟨gb118, 3, none⟩ = some (.int .i64 a0_3) := (blk_cell BK118.out 3).trans rfl; have hfz5_0 := blk_frozen BK118.out 0; have hfz5_1 := blk_frozen BK118.out 1; have hfz5_2 := blk_frozen BK118.out 2; have hfz5_3 := blk_frozen BK118.out 3) | ((with_reducible refine gate_callee (f := 77) rfl ?_); refine goesL_ (some 15) rfl rfl Try.func77 (by kernel_rfl) rfl #[.agg #[.int .i64 a0_0, .int .i64 a0_1, .int .i64 a0_2, .int .i64 a0_3]] rfl (by (try simp only [List.map_toArray, List.map_cons, List.map_nil]); first | done | rfl | (simp only [List.length_drop, List.length_take]; rfl)) ?_; (with_reducible refine (xL4Many.calls a0_0 a0_1 a0_2 a0_3 t119 _ A3.out).mono ?_); rintro e w6 ⟨rfl, hb⟩; refine ⟨_, rfl, ?_⟩; have n0_ := Aside0.mk (blk_below (g := gb118) (o := .cells #[.int .i64 a0_0, .int .i64 a0_1, .int .i64 a0_2, .int .i64 a0_3] 27 (0, 0)) (by (with_reducible repeat (first | refine blk_drewN ?_ _ | refine blk_drew ?_ | refine blk_alloc ?_ _)); exact BK118.out) hb); have n1_ := Aside0.mk (below_step (by repeat (first | (with_reducible first | exact HB.out | apply below_alloc | apply pw_below_drewN | apply below_drew1 | refine below_set ?_ GE118.out) | exact HB.out)) hb); clear BK118; clear HB; have BK118 := n0_; have HB := n1_; clear n0_ n1_; (try clear hb); (try clear hb2); (try clear hk); (try clear hi)) | ((with_reducible refine gate_dst (N := 16) rfl ?_); refine Kd.N_lit (Kd.slice 98 k98) _ 95 ?hg (N' := 16) ?hd (xs := ([] : List (List (S98)))) (inner := []) (ok := (fun k_ => (w.heap.size ≤ k_) ∧ k_ ≠ gb118)) (okp := (fun k_ => (w.heap.size ≤ k_) ∧ k_ ≠ gb118)) ?hr ?hp (fun _ hk => hk) ((show ∀ k_, w6.heap.size ≤ k_ → (fun k_ => (w.heap.size ≤ k_) ∧ k_ ≠ gb118) k_ from fun k_ hk => ⟨(Nat.le_trans (below_size (by repeat (first | (with_reducible first | exact HB.out | apply below_alloc | apply pw_below_drewN | apply below_drew1 | refine below_set ?_ GE118.out) | exact HB.out))) hk), Kd.freshB (g := gb118) (o := .cells #[.int .i64 a0_0, .int .i64 a0_1, .int .i64 a0_2, .int .i64 a0_3] 27 (0, 0)) (by (with_reducible repeat (first | refine blk_drewN ?_ _ | refine blk_drew ?_ | refine blk_alloc ?_ _)); exact BK118.out) k_ hk⟩) _ (Nat.le_refl _)) (Below.refl _ _) (Nat.le_refl _) (by simp) ?_; (case hd => rfl); (case hg => rfl); (case hr => first | (go_simp; done) | (go_simp; rfl)); (case hp => exact (Reps.none _ _)); intro v121 w7 ho8 hb hg_ hnew_; clear hg_ hnew_; (first | rw [← Ny120.out] at ho8 | (simp only [Int.reduceToNat] at ho8; rw [← Ny120.out] at ho8)); have n0_ := Aside0.mk (Kd.N_lower ho8 (below_size (by repeat (first | (with_reducible first | exact HB.out | apply below_alloc | apply pw_below_drewN | apply below_drew1 | refine below_set ?_ GE118.out) | exact HB.out)))); have n1_ := Aside0.mk (blk_below (g := gb118) (o := .cells #[.int .i64 a0_0, .int .i64 a0_1, .int .i64 a0_2, .int .i64 a0_3] 27 (0, 0)) (by (with_reducible repeat (first | refine blk_drewN ?_ _ | refine blk_drew ?_ | refine blk_alloc ?_ _)); exact BK118.out) hb); have n2_ := Aside0.mk (below_step (by repeat (first | (with_reducible first | exact HB.out | apply below_alloc | apply pw_below_drewN | apply below_drew1 | refine below_set ?_ GE118.out) | exact HB.out)) hb); clear BK118; clear HB; have HO122 := n0_; have BK118 := n1_; have HB := n2_; clear n0_ n1_ n2_; clear hb ho8))
 go_loopg [6, 7] k (fun kq v6 v7 w' => ∃ (x6_1 : List (List (S98))) (x7_1 : Int), v7 = .int .i64 x7_1 ∧ Aside0 (spec_l4Measured.l0 kq a1 t119 x6_1 x7_1 a0_0 a0_1 a0_2 a0_3 = some r) ∧ Aside0 (kq ≤ k) ∧ Aside0 (Kd.N (Kd.slice 98 k98) 95 w' w.heap.size (fun k_ => (w.heap.size ≤ k_) ∧ k_ ≠ gb118) v6 x6_1) ∧ Aside0 (w'.heap[gb118]? = some (.cells #[.int .i64 a0_0, .int .i64 a0_1, .int .i64 a0_2, .int .i64 a0_3] 27 (0, 0))) ∧ Aside0 (Below w.heap.size w w'))
 case atStart => exact ⟨(y120), (0), (by first | rfl | (simp; done) | (simp [*]; done)), H', ⟨Nat.le_refl _⟩, ⟨by (with_reducible repeat (first | apply Kd.N_alloc | apply Kd.N_drewN | apply Kd.N_drew)); exact HO122.out⟩, ⟨by (with_reducible repeat (first | refine blk_drewN ?_ _ | refine blk_drew ?_ | refine blk_alloc ?_ _)); exact BK118.out⟩, ⟨by repeat (first | (with_reducible first | exact HB.out | apply below_alloc | apply pw_below_drewN | apply below_drew1 | refine below_set ?_ GE118.out) | exact HB.out)⟩⟩
 case round =>
  clear H'
  try clear p2
  try clear c5
  try clear c7
  try clear hcz5_0
  try clear hcz5_1
  try clear hcz5_2
  try clear hcz5_3
  try clear hfz5_0
  try clear hfz5_1
  try clear hfz5_2
  try clear hfz5_3
  obtain ⟨x6_1, x7_1, rfl, HA, HK1, HO_6, BK118, HB⟩ := hrel
  cases gk with
  | zero => exact absurd HA.out (by simp [spec_l4Measured.l0])
  | succ k1 =>
   have H := HA.out
   clear HA
   simp only [spec_l4Measured.l0] at H
   by_cases c9 : x7_1 < t119
   ·rw [if_pos c9] at H
    have c9b0 : decide (x7_1 < t119) = true := decide_eq_true c9
    clear c9
    replace H := Option.bind_eq_some_iff.mp H
    obtain ⟨⟨t123, t124, t125, t126⟩, A100, H⟩ := H
    replace H : ((spec_l4Next.f k1 a0_0 a0_1 a0_2 a0_3 t123 t124 t125 t126).bind fun t127 => (if x6_1.length < 5864062014805 then (spec_l4Measured.l0 k1 a1 t119 (x6_1 ++ [t127]) (wrap64 (x7_1 + 1)) a0_0 a0_1 a0_2 a0_3) else (none))) = some r := H
    have A10 := Aside0.mk A100
    clear A100
    replace H := Option.bind_eq_some_iff.mp H
    obtain ⟨t127, A110, H⟩ := H
    replace H : (if x6_1.length < 5864062014805 then (spec_l4Measured.l0 k1 a1 t119 (x6_1 ++ [t127]) (wrap64 (x7_1 + 1)) a0_0 a0_1 a0_2 a0_3) else (none)) = some r := H
    have A11 := Aside0.mk A110
    clear A110
    by_cases c12 : x6_1.length < 5864062014805
    ·rw [if_pos c12] at H
     have LMc12 := Aside0.mk c12
     clear c12
     obtain ⟨y130, hy130⟩ : ∃ y_ : List (List (S98)), y_ = (x6_1 ++ [t127]) := ⟨_, rfl⟩
     replace H : (spec_l4Measured.l0 k1 a1 t119 y130 (wrap64 (x7_1 + 1)) a0_0 a0_1 a0_2 a0_3) = some r := by first | (rw [hy130]; with_reducible exact H) | (have H2_ := (Option.bind_some _ _).symm.trans H; rw [hy130]; with_reducible exact H2_) | (have H2_ := (Option.bind_some _ _).symm.trans H; with_reducible exact H2_) | with_reducible exact H | (rw [hy130]; exact H) | exact H
     have Ny130 := Aside0.mk hy130
     clear hy130
     have H' := Aside0.mk H
     clear H
     try go_wp2
     have n0_ := Aside0.mk (Kd.N_drew HO_6.out)
     have n1_ := Aside0.mk (blk_drew BK118.out)
     have n2_ := Aside0.mk (below_drew1 HB.out)
     clear HO_6
     clear BK118
     clear HB
     have HO_6 := n0_
     have BK118 := n1_
     have HB := n2_
     clear n0_ n1_ n2_
     refine start_ (n := 9) (S := fun w' => w'.cell? ⟨gb118, 0, none⟩ = some (.int .i64 a0_0) ∧ w'.cell? ⟨gb118, 1, none⟩ = some (.int .i64 a0_1) ∧ w'.cell? ⟨gb118, 2, none⟩ = some (.int .i64 a0_2) ∧ w'.cell? ⟨gb118, 3, none⟩ = some (.int .i64 a0_3)) (ds := []) #[false, false, false, false, false, false, false, false, false] (by kernel_rfl) rfl rfl ⟨(blk_cell BK118.out 0).trans rfl, (blk_cell BK118.out 1).trans rfl, (blk_cell BK118.out 2).trans rfl, (blk_cell BK118.out 3).trans rfl⟩ (fun hHeld => ?_); refine with_tabW spec_l4Measured.tab6 spec_l4Measured.bits6 (fun HT_ HW_ => ?_)
     generalize wr.drew = w13 at HO_6 BK118 HB hHeld ⊢
     refine pure_ (i := 0) (N := some 22) (v := ?_) (a' := ?_) #[true, false, false, false, false, false, false, false, false] rfl rfl (any_of HT_.out (by kernel_rfl)) (fun _ _ _ h => h) (Or.inl ⟨by rfl, ?_⟩) ?_ ?_
     rotate_left
     ·intro w'
      go_simp
      with_reducible rfl
     rotate_left
     ·simp only [Act.put, List.setIfInBounds_toArray, List.set_cons_zero, List.set_cons_succ, i64_w, i32_w]
      rfl
     refine pure_ (i := 3) (N := some 25) (v := ?_) (a' := ?_) #[true, false, false, true, false, false, false, false, false] rfl rfl (any_of HT_.out (by kernel_rfl)) (fun _ _ _ h => h) (Or.inl ⟨by rfl, ?_⟩) ?_ ?_
     rotate_left
     ·intro w'
      go_simp
      with_reducible rfl
     rotate_left
     ·simp only [Act.put, List.setIfInBounds_toArray, List.set_cons_zero, List.set_cons_succ, i64_w, i32_w]
      rfl
     refine take_ (i := 1) (N := some 23) (v := ?_) (a' := ?_) #[true, true, false, true, false, false, false, false, false] rfl rfl (take_ofW HT_.out HW_.out (by kernel_rfl)) (fun _ _ _ h => h) (Or.inl ⟨by rfl, ?_⟩) hHeld ?_ ?_
     rotate_left
     ·rintro w' ⟨s0, s1, s2, s3⟩
      go_simp
      with_reducible rfl
     rotate_left
     ·simp only [Act.put, List.setIfInBounds_toArray, List.set_cons_zero, List.set_cons_succ, i64_w, i32_w]
      rfl
     refine take_ (i := 2) (N := some 24) (v := ?_) (a' := ?_) #[true, true, true, true, false, false, false, false, false] rfl rfl (take_ofW HT_.out HW_.out (by kernel_rfl)) (fun _ _ _ h => h) (Or.inl ⟨by rfl, ?_⟩) hHeld ?_ ?_
     rotate_left
     ·rintro w' ⟨s0, s1, s2, s3⟩
      go_simp
      with_reducible rfl
     rotate_left
     ·simp only [Act.put, List.setIfInBounds_toArray, List.set_cons_zero, List.set_cons_succ, i64_w, i32_w]
      rfl
     refine one_ (i := 4) (N := some 26) #[true, true, true, true, true, false, false, false, false] rfl rfl (one_of HT_.out (by kernel_rfl)) (by decide) (fun K hK => ?_)
     refine goes_ Try.func79 (by kernel_rfl) rfl #[.agg #[.int .i64 a0_0, .int .i64 a0_1, .int .i64 a0_2, .int .i64 a0_3], .int .i64 x7_1] (by rfl) rfl rfl (by (try simp only [List.map_toArray, List.map_cons, List.map_nil]); first | done | rfl | (simp only [List.length_drop, List.length_take]; rfl)) ?_
     with_reducible refine (xL4Sand.calls a0_0 a0_1 a0_2 a0_3 x7_1 t123 t124 t125 t126 _ A10.out).mono ?_
     rintro e w14 ⟨rfl, hb⟩
     refine ⟨_, rfl, ?_⟩
     have n0_ := Aside0.mk (Kd.N_below (by (with_reducible repeat (first | apply Kd.N_alloc | apply Kd.N_drewN | apply Kd.N_drew)); exact HO_6.out) hb)
     have n1_ := Aside0.mk (blk_below (g := gb118) (o := .cells #[.int .i64 a0_0, .int .i64 a0_1, .int .i64 a0_2, .int .i64 a0_3] 27 (0, 0)) (by (with_reducible repeat (first | refine blk_drewN ?_ _ | refine blk_drew ?_ | refine blk_alloc ?_ _)); exact BK118.out) hb)
     have n2_ := Aside0.mk (below_step (by repeat (first | (with_reducible first | exact HB.out | apply below_alloc | apply pw_below_drewN | apply below_drew1 | refine below_set ?_ GE118.out) | exact HB.out)) hb)
     clear HO_6
     clear BK118
     clear HB
     have HO_6 := n0_
     have BK118 := n1_
     have HB := n2_
     clear n0_ n1_ n2_
     (try clear hb)
     (try clear hb2)
     (try clear hk)
     (try clear hi)
     refine hK.out _ _ ⟨(blk_cell BK118.out 0).trans rfl, (blk_cell BK118.out 1).trans rfl, (blk_cell BK118.out 2).trans rfl, (blk_cell BK118.out 3).trans rfl⟩ (fun hHeld => ?_)
     clear hK K
     refine norm_ (a' := ?_) ?_ ?_
     rotate_left
     ·show Act.put _ (some 26) _ = _
      simp only [Act.put, List.setIfInBounds_toArray, List.set_cons_zero, List.set_cons_succ, i64_w, i32_w]
      rfl
     refine one_ (i := 5) (N := some 27) #[true, true, true, true, true, true, false, false, false] rfl rfl (one_of HT_.out (by kernel_rfl)) (by decide) (fun K hK => ?_)
     refine goes_ Try.func78 (by kernel_rfl) rfl #[.agg #[.int .i64 a0_0, .int .i64 a0_1, .int .i64 a0_2, .int .i64 a0_3], .agg #[.int .i64 t123, .int .i64 t124, .int .i64 t125, .int .i64 t126]] (by rfl) rfl rfl (by (try simp only [List.map_toArray, List.map_cons, List.map_nil]); first | done | rfl | (simp only [List.length_drop, List.length_take]; rfl)) ?_
     with_reducible refine (spec_l4Next.calls k1 a0_0 a0_1 a0_2 a0_3 t123 t124 t125 t126 t127 _ A11.out).mono ?_
     rintro e w15 ⟨v128, rfl, ho0, hb⟩
     refine ⟨_, rfl, ?_⟩
     have n0_ := Aside0.mk (Kd.N_elder' (by (with_reducible repeat (first | apply Kd.N_alloc | apply Kd.N_drewN | apply Kd.N_drew)); exact HO_6.out) (Kd.R_base ho0) hb)
     have n1_ := Aside0.mk (Kd.R_lower (Kd.R_newM (M := fun k_ => (w.heap.size ≤ k_)) ho0 (below_size (by repeat (first | (with_reducible first | exact HB.out | apply below_alloc | apply pw_below_drewN | apply below_drew1 | refine below_set ?_ GE118.out) | exact HB.out))) (fun k_ h_ => h_)) (below_size (by repeat (first | (with_reducible first | exact HB.out | apply below_alloc | apply pw_below_drewN | apply below_drew1 | refine below_set ?_ GE118.out) | exact HB.out))))
     have n2_ := Aside0.mk (blk_below (g := gb118) (o := .cells #[.int .i64 a0_0, .int .i64 a0_1, .int .i64 a0_2, .int .i64 a0_3] 27 (0, 0)) (by (with_reducible repeat (first | refine blk_drewN ?_ _ | refine blk_drew ?_ | refine blk_alloc ?_ _)); exact BK118.out) hb)
     have n3_ := Aside0.mk (below_step (by repeat (first | (with_reducible first | exact HB.out | apply below_alloc | apply pw_below_drewN | apply below_drew1 | refine below_set ?_ GE118.out) | exact HB.out)) hb)
     clear HO_6
     clear BK118
     clear HB
     have HO_6 := n0_
     have HO129 := n1_
     have BK118 := n2_
     have HB := n3_
     clear n0_ n1_ n2_ n3_
     (try clear hb)
     (try clear hb2)
     (try clear hk)
     (try clear hi)
     (try clear ho0)
     obtain ⟨Ao17, co17, eo17⟩ := Kd.R_slice HO129.out
     (first | subst eo17 | (injection eo17 with f1_ f2_ f3_; have f4_ := f1_.symm; have f5_ := f3_.symm; clear f1_ f2_ f3_; subst f4_; subst f5_))
     refine hK.out _ _ ⟨(blk_cell BK118.out 0).trans rfl, (blk_cell BK118.out 1).trans rfl, (blk_cell BK118.out 2).trans rfl, (blk_cell BK118.out 3).trans rfl⟩ (fun hHeld => ?_)
     clear hK K
     refine norm_ (a' := ?_) ?_ ?_
     rotate_left
     ·show Act.put _ (some 27) _ = _
      simp only [Act.put, List.setIfInBounds_toArray, List.set_cons_zero, List.set_cons_succ, i64_w, i32_w]
      rfl
     refine one_ (i := 6) (N := some 28) #[true, true, true, true, true, true, true, false, false] rfl rfl (one_of HT_.out (by kernel_rfl)) (by decide) (fun K hK => ?_)
     refine value_ (w1 := ?_) (v := ?_) (by rfl) rfl ?_ ?_
     rotate_left 2
     ·go_simp
      constructor
      ·rfl
      ·rfl
     refine hK.out _ _ ⟨(blk_cell (blk_alloc BK118.out _) 0).trans rfl, (blk_cell (blk_alloc BK118.out _) 1).trans rfl, (blk_cell (blk_alloc BK118.out _) 2).trans rfl, (blk_cell (blk_alloc BK118.out _) 3).trans rfl⟩ (fun hHeld => ?_)
     clear hK K
     refine norm_ (a' := ?_) ?_ ?_
     rotate_left
     ·show Act.put _ (some 28) _ = _
      simp only [Act.put, List.setIfInBounds_toArray, List.set_cons_zero, List.set_cons_succ, i64_w, i32_w]
      rfl
     refine one_ (i := 7) (N := some 29) #[true, true, true, true, true, true, true, true, false] rfl rfl (one_of HT_.out (by kernel_rfl)) (by decide) (fun K hK => ?_)
     refine Kd.N_append_step (Kd.slice 98 k98) (w0 := w) w.heap.size (by rfl) (.tmp 22) (.tmp 28) 101 95 (.slice none 0 0) 24 rfl Try.underlying101 info95 rfl (by decide) (by omega) u6 x6_1 t127 [.slice Ao17 t127.length co17] (fun k_ => (w.heap.size ≤ k_) ∧ k_ ≠ gb118) (fun k_ => ((fun k_ => (w.heap.size ≤ k_) ∧ k_ ≠ gb118)) k_ ∧ some k_ ≠ (u6 : Value).ownBlock) rfl rfl ?aP (fun _ hk => hk) ?aF ?aO ?aB ?aS ?aL ?_
     (case aP => exact (Kd.FK_slice_mk (Kd.R_reads' (Kd.R_mono (ok' := (fun k_ => ((fun k_ => (w.heap.size ≤ k_) ∧ k_ ≠ gb118)) k_ ∧ some k_ ≠ (u6 : Value).ownBlock)) (Kd.R_types (Kd.R_apart' (HO129.out) (Kd.N_typed HO_6.out) (by decide)) BK118.out (by decide)) (fun k_ hk => ⟨⟨hk.1.1.1, hk.2⟩, hk.1.2⟩))).2.1 (Kd.R_F (Kd.R_mono (ok' := (fun k_ => ((fun k_ => (w.heap.size ≤ k_) ∧ k_ ≠ gb118)) k_ ∧ some k_ ≠ (u6 : Value).ownBlock)) (Kd.R_types (Kd.R_apart' (HO129.out) (Kd.N_typed HO_6.out) (by decide)) BK118.out (by decide)) (fun k_ hk => ⟨⟨hk.1.1.1, hk.2⟩, hk.1.2⟩)))))
     (case aB => exact (by repeat (first | (with_reducible first | exact HB.out | apply below_alloc | apply pw_below_drewN | apply below_drew1 | refine below_set ?_ GE118.out) | exact HB.out)))
     (case aF => exact (fun k_ hk => ⟨(Nat.le_trans (below_size (by repeat (first | (with_reducible first | exact HB.out | apply below_alloc | apply pw_below_drewN | apply below_drew1 | refine below_set ?_ GE118.out) | exact HB.out))) hk), Kd.freshB (g := gb118) (o := .cells #[.int .i64 a0_0, .int .i64 a0_1, .int .i64 a0_2, .int .i64 a0_3] 27 (0, 0)) (by (with_reducible repeat (first | refine blk_drewN ?_ _ | refine blk_drew ?_ | refine blk_alloc ?_ _)); exact BK118.out) k_ hk⟩))
     (case aO => exact (by (with_reducible repeat (first | apply Kd.N_alloc | apply Kd.N_drewN | apply Kd.N_drew)); exact Kd.N_mono HO_6.out (fun _ hk => ⟨hk.1.1, hk.1.2⟩)))
     (case aS => exact (below_size (by repeat (first | (with_reducible first | exact HB.out | apply below_alloc | apply pw_below_drewN | apply below_drew1 | refine below_set ?_ GE118.out) | exact HB.out))))
     (case aL => have := LMc12.out; omega)
     intro v131 w16 ho hb hg hat
     rw [← Ny130.out] at ho
     have n0_ := Aside0.mk (blk_grown (g := gb118) (o := .cells #[.int .i64 a0_0, .int .i64 a0_1, .int .i64 a0_2, .int .i64 a0_3] 27 (0, 0)) (by (with_reducible repeat (first | refine blk_drewN ?_ _ | refine blk_drew ?_ | refine blk_alloc ?_ _)); exact BK118.out) hg (Kd.N_ne HO_6.out BK118.out (by decide)))
     have n1_ := Aside0.mk (hb)
     have n2_ := Aside0.mk (ho)
     clear BK118
     clear HB
     clear HO_6
     clear HO129
     have BK118 := n0_
     have HB := n1_
     have HO132 := n2_
     clear n0_ n1_ n2_
     clear ho hb hg hat
     refine hK.out _ _ ⟨(blk_cell BK118.out 0).trans rfl, (blk_cell BK118.out 1).trans rfl, (blk_cell BK118.out 2).trans rfl, (blk_cell BK118.out 3).trans rfl⟩ (fun hHeld => ?_)
     clear hK K
     refine norm_ (a' := ?_) ?_ ?_
     rotate_left
     ·show Act.put _ (some 29) _ = _
      simp only [Act.put, List.setIfInBounds_toArray, List.set_cons_zero, List.set_cons_succ, i64_w, i32_w]
      rfl
     refine pure_ (i := 8) (N := some 6) (v := ?_) (a' := ?_) #[true, true, true, true, true, true, true, true, true] rfl rfl (any_of HT_.out (by kernel_rfl)) (fun _ _ _ h => h) (Or.inl ⟨by rfl, ?_⟩) ?_ ?_
     rotate_left
     ·intro w'
      go_simp
      with_reducible rfl
     rotate_left
     ·simp only [Act.put, List.setIfInBounds_toArray, List.set_cons_zero, List.set_cons_succ, i64_w, i32_w]
      rfl
     refine done_ (done_of HT_.out (by kernel_rfl)) ?_
     try go_wp2
     go_roundg k1
     case measure => have := HK1.out; omega
     case rel => exact ⟨(y130), (wrap64 (x7_1 + 1)), (by first | rfl | (simp; done) | (simp [*]; done)), H', ⟨by have := HK1.out; omega⟩, ⟨by (with_reducible repeat (first | apply Kd.N_alloc | apply Kd.N_drewN | apply Kd.N_drew)); exact HO132.out⟩, ⟨by (with_reducible repeat (first | refine blk_drewN ?_ _ | refine blk_drew ?_ | refine blk_alloc ?_ _)); exact BK118.out⟩, ⟨by repeat (first | (with_reducible first | exact HB.out | apply below_alloc | apply pw_below_drewN | apply below_drew1 | refine below_set ?_ GE118.out) | exact HB.out)⟩⟩
    ·rw [if_neg c12] at H
     exact absurd H (by simp)
   ·rw [if_neg c9] at H
    have c9b0 : decide (x7_1 < t119) = false := decide_eq_false c9
    clear c9
    by_cases c18 : 0 ≤ t119
    ·rw [if_pos c18] at H
     have c18b0 := eq_true c18
     have c18b1 : decide (0 ≤ t119) = true := decide_eq_true c18
     clear c18
     by_cases c19 : (t119 : Int).toNat ≤ 281474976710656
     ·rw [if_pos c19] at H
      have c19b0 := eq_true c19
      have c19b1 : decide ((t119 : Int).toNat ≤ 281474976710656) = true := decide_eq_true c19
      clear c19
      obtain ⟨y133, hy133⟩ : ∃ y_ : List Bool, y_ = (List.replicate (t119 : Int).toNat false) := ⟨_, rfl⟩
      replace H : (spec_l4Measured.l1 k1 a1 t119 x6_1 (([y133] : List (List Bool))) 1) = some r := by first | (rw [hy133]; with_reducible exact H) | (have H2_ := (Option.bind_some _ _).symm.trans H; rw [hy133]; with_reducible exact H2_) | (have H2_ := (Option.bind_some _ _).symm.trans H; with_reducible exact H2_) | with_reducible exact H | (rw [hy133]; exact H) | exact H
      have Ny133 := Aside0.mk hy133
      clear hy133
      obtain ⟨y136, hy136⟩ : ∃ y_ : List (List Bool), y_ = (([y133] : List (List Bool))) := ⟨_, rfl⟩
      replace H : (spec_l4Measured.l1 k1 a1 t119 x6_1 y136 1) = some r := by first | (rw [hy136]; with_reducible exact H) | (have H2_ := (Option.bind_some _ _).symm.trans H; rw [hy136]; with_reducible exact H2_) | (have H2_ := (Option.bind_some _ _).symm.trans H; with_reducible exact H2_) | with_reducible exact H | (rw [hy136]; exact H) | exact H
      have Ny136 := Aside0.mk hy136
      clear hy136
      have H' := Aside0.mk H
      clear H
      go_wp2_with (first | ((with_reducible refine gate_dst (N := 31) rfl ?_); refine Kd.R_make Kd.bool _ 4 rfl (N := 31) rfl 60 _ _ rfl t119 rfl rfl Try.underlying60 (.bool false) 1 info4 rfl (by decide) (by omega) false (ok := fun _ => True) (okp := fun _ => True) rfl (fun _ hk => hk) trivial (of_decide_eq_true (by first | (with_reducible assumption) | assumption)) (Nat.le_trans (Nat.mul_le_mul_right _ (of_decide_eq_true (by first | (with_reducible assumption) | assumption) : t119.toNat ≤ 281474976710656)) (by omega)) (Below.refl _ _) (Nat.le_refl _) ?_; intro v134 w20 ho21 hb hg_ hnew_; clear hg_ hnew_; (first | rw [← Ny133.out] at ho21 | (simp only [Int.reduceToNat] at ho21; rw [← Ny133.out] at ho21)); have n0_ := Aside0.mk (Kd.N_elder' (by (with_reducible repeat (first | apply Kd.N_alloc | apply Kd.N_drewN | apply Kd.N_drew)); exact HO_6.out) (Kd.R_base ho21) hb); have n1_ := Aside0.mk (Kd.R_lower (Kd.R_newM (M := fun k_ => (w.heap.size ≤ k_)) ho21 (below_size (by repeat (first | (with_reducible first | exact HB.out | apply below_alloc | apply pw_below_drewN | apply below_drew1 | refine below_set ?_ GE118.out) | exact HB.out))) (fun k_ h_ => h_)) (below_size (by repeat (first | (with_reducible first | exact HB.out | apply below_alloc | apply pw_below_drewN | apply below_drew1 | refine below_set ?_ GE118.out) | exact HB.out)))); have n2_ := Aside0.mk (blk_below (g := gb118) (o := .cells #[.int .i64 a0_0, .int .i64 a0_1, .int .i64 a0_2, .int .i64 a0_3] 27 (0, 0)) (by (with_reducible repeat (first | refine blk_drewN ?_ _ | refine blk_drew ?_ | refine blk_alloc ?_ _)); exact BK118.out) hb); have n3_ := Aside0.mk (below_step (by repeat (first | (with_reducible first | exact HB.out | apply below_alloc | apply pw_below_drewN | apply below_drew1 | refine below_set ?_ GE118.out) | exact HB.out)) hb); clear HO_6; clear BK118; clear HB; have HO_6 := n0_; have HO135 := n1_; have BK118 := n2_; have HB := n3_; clear n0_ n1_ n2_ n3_; clear hb ho21; obtain ⟨Ao22, co22, eo22⟩ := Kd.R_slice HO135.out; subst eo22) | ((with_reducible refine gate_dst (N := 32) rfl ?_); refine Kd.N_lit (Kd.slice 4 Kd.bool) _ 60 ?hg (N' := 32) ?hd (xs := ([y133] : List (List Bool))) (inner := [.slice Ao22 y133.length co22]) (ok := (fun k_ => (w.heap.size ≤ k_) ∧ some k_ ≠ (u6 : Value).ownBlock ∧ k_ ≠ gb118)) (okp := (fun k_ => (w.heap.size ≤ k_) ∧ some k_ ≠ (u6 : Value).ownBlock ∧ k_ ≠ gb118)) ?hr ?hp (fun _ hk => hk) ((show ∀ k_, w20.heap.size ≤ k_ → (fun k_ => (w.heap.size ≤ k_) ∧ some k_ ≠ (u6 : Value).ownBlock ∧ k_ ≠ gb118) k_ from fun k_ hk => ⟨(Nat.le_trans (below_size (by repeat (first | (with_reducible first | exact HB.out | apply below_alloc | apply pw_below_drewN | apply below_drew1 | refine below_set ?_ GE118.out) | exact HB.out))) hk), Kd.fresh' (Kd.N_lt (by (with_reducible repeat (first | apply Kd.N_alloc | apply Kd.N_drewN | apply Kd.N_drew)); exact HO_6.out)) k_ hk, Kd.freshB (g := gb118) (o := .cells #[.int .i64 a0_0, .int .i64 a0_1, .int .i64 a0_2, .int .i64 a0_3] 27 (0, 0)) (by (with_reducible repeat (first | refine blk_drewN ?_ _ | refine blk_drew ?_ | refine blk_alloc ?_ _)); exact BK118.out) k_ hk⟩) _ (Nat.le_refl _)) (Below.refl _ _) (Nat.le_refl _) (by simp) ?_; (case hd => rfl); (case hg => rfl); (case hr => first | (go_simp; done) | (go_simp; rfl)); (case hp => exact (Reps.one (show Kd.FK (Kd.slice 4 Kd.bool) _ _ y133 [.slice Ao22 y133.length co22] from (Kd.FK_slice_mk (Kd.R_reads' (Kd.R_mono (ok' := (fun k_ => (w.heap.size ≤ k_) ∧ some k_ ≠ (u6 : Value).ownBlock ∧ k_ ≠ gb118)) (Kd.R_types (Kd.R_apart' (HO135.out) (Kd.N_typed HO_6.out) (by decide)) BK118.out (by decide)) (fun k_ hk => ⟨hk.1.1.1, ⟨hk.1.2, hk.2⟩⟩))).2.1 (Kd.R_F (Kd.R_mono (ok' := (fun k_ => (w.heap.size ≤ k_) ∧ some k_ ≠ (u6 : Value).ownBlock ∧ k_ ≠ gb118)) (Kd.R_types (Kd.R_apart' (HO135.out) (Kd.N_typed HO_6.out) (by decide)) BK118.out (by decide)) (fun k_ hk => ⟨hk.1.1.1, ⟨hk.1.2, hk.2⟩⟩))))) (Reps.none _ _))); intro v137 w23 ho24 hb hg_ hnew_; clear hg_ hnew_; (first | rw [← Ny136.out] at ho24 | (simp only [Int.reduceToNat] at ho24; rw [← Ny136.out] at ho24)); have n0_ := Aside0.mk (Kd.N_elder' (by (with_reducible repeat (first | apply Kd.N_alloc | apply Kd.N_drewN | apply Kd.N_drew)); exact HO_6.out) (Kd.N_base ho24) hb); have n1_ := Aside0.mk (Kd.N_lower ho24 (below_size (by repeat (first | (with_reducible first | exact HB.out | apply below_alloc | apply pw_below_drewN | apply below_drew1 | refine below_set ?_ GE118.out) | exact HB.out)))); have n2_ := Aside0.mk (blk_below (g := gb118) (o := .cells #[.int .i64 a0_0, .int .i64 a0_1, .int .i64 a0_2, .int .i64 a0_3] 27 (0, 0)) (by (with_reducible repeat (first | refine blk_drewN ?_ _ | refine blk_drew ?_ | refine blk_alloc ?_ _)); exact BK118.out) hb); have n3_ := Aside0.mk (below_step (by repeat (first | (with_reducible first | exact HB.out | apply below_alloc | apply pw_below_drewN | apply below_drew1 | refine below_set ?_ GE118.out) | exact HB.out)) hb); clear HO_6; clear BK118; clear HB; clear HO135; have HO_6 := n0_; have HO138 := n1_; have BK118 := n2_; have HB := n3_; clear n0_ n1_ n2_ n3_; clear hb ho24))
      go_loopg [8, 9] k1 (fun kq v8 v9 w' => ∃ (x8_2 : List (List Bool)) (x9_2 : Int), v9 = .int .i64 x9_2 ∧ Aside0 (spec_l4Measured.l1 kq a1 t119 x6_1 x8_2 x9_2 = some r) ∧ Aside0 (kq ≤ k1) ∧ Aside0 (Kd.N (Kd.slice 98 k98) 95 w' w.heap.size (fun k_ => (w.heap.size ≤ k_) ∧ some k_ ≠ (v8 : Value).ownBlock ∧ k_ ≠ gb118) u6 x6_1) ∧ Aside0 (Kd.N (Kd.slice 4 Kd.bool) 60 w' w.heap.size (fun k_ => (w.heap.size ≤ k_) ∧ some k_ ≠ (u6 : Value).ownBlock ∧ k_ ≠ gb118) v8 x8_2) ∧ Aside0 (w'.heap[gb118]? = some (.cells #[.int .i64 a0_0, .int .i64 a0_1, .int .i64 a0_2, .int .i64 a0_3] 27 (0, 0))) ∧ Aside0 (Below w.heap.size w w'))
      case atStart => exact ⟨(y136), (1), (by first | rfl | (simp; done) | (simp [*]; done)), H', ⟨Nat.le_refl _⟩, ⟨by (with_reducible repeat (first | apply Kd.N_alloc | apply Kd.N_drewN | apply Kd.N_drew)); exact Kd.N_mono HO_6.out (fun _ hk => ⟨hk.1.1.1, ⟨hk.2, hk.1.1.2⟩⟩)⟩, ⟨by (with_reducible repeat (first | apply Kd.N_alloc | apply Kd.N_drewN | apply Kd.N_drew)); exact HO138.out⟩, ⟨by (with_reducible repeat (first | refine blk_drewN ?_ _ | refine blk_drew ?_ | refine blk_alloc ?_ _)); exact BK118.out⟩, ⟨by repeat (first | (with_reducible first | exact HB.out | apply below_alloc | apply pw_below_drewN | apply below_drew1 | refine below_set ?_ GE118.out) | exact HB.out)⟩⟩
      case round =>
       clear H'
       try clear c1
       try clear p2
       try clear c5
       try clear p6
       try clear c7
       try clear c9
       try clear c9b0
       try clear c12
       try clear c18
       try clear c18b0
       try clear c18b1
       try clear c19
       try clear c19b0
       try clear c19b1
       try clear hcz5_0
       try clear hcz5_1
       try clear hcz5_2
       try clear hcz5_3
       try clear hfz5_0
       try clear hfz5_1
       try clear hfz5_2
       try clear hfz5_3
       try clear p2
       obtain ⟨x8_2, x9_2, rfl, HA, HK2, HO_6, HO_8, BK118, HB⟩ := hrel
       cases gk with
       | zero => exact absurd HA.out (by simp [spec_l4Measured.l1])
       | succ k2 =>
        have H := HA.out
        clear HA
        simp only [spec_l4Measured.l1] at H
        by_cases c25 : x9_2 ≤ a1
        ·rw [if_pos c25] at H
         have c25b0 : decide (x9_2 ≤ a1) = true := decide_eq_true c25
         clear c25
         by_cases c26 : 0 ≤ t119
         ·rw [if_pos c26] at H
          have c26b0 := eq_true c26
          have c26b1 : decide (0 ≤ t119) = true := decide_eq_true c26
          clear c26
          by_cases c27 : (t119 : Int).toNat ≤ 281474976710656
          ·rw [if_pos c27] at H
           have c27b0 := eq_true c27
           have c27b1 : decide ((t119 : Int).toNat ≤ 281474976710656) = true := decide_eq_true c27
           clear c27
           obtain ⟨y139, hy139⟩ : ∃ y_ : List Bool, y_ = (List.replicate (t119 : Int).toNat false) := ⟨_, rfl⟩
           replace H : (spec_l4Measured.l2 k2 a1 t119 x6_1 x8_2 x9_2 y139 0) = some r := by first | (rw [hy139]; with_reducible exact H) | (have H2_ := (Option.bind_some _ _).symm.trans H; rw [hy139]; with_reducible exact H2_) | (have H2_ := (Option.bind_some _ _).symm.trans H; with_reducible exact H2_) | with_reducible exact H | (rw [hy139]; exact H) | exact H
           have Ny139 := Aside0.mk hy139
           clear hy139
           have H' := Aside0.mk H
           clear H
           go_wp2_with (first | ((with_reducible refine gate_dst (N := 39) rfl ?_); refine Kd.R_make Kd.bool _ 4 rfl (N := 39) rfl 60 _ _ rfl t119 rfl rfl Try.underlying60 (.bool false) 1 info4 rfl (by decide) (by omega) false (ok := fun _ => True) (okp := fun _ => True) rfl (fun _ hk => hk) trivial (of_decide_eq_true (by first | (with_reducible assumption) | assumption)) (Nat.le_trans (Nat.mul_le_mul_right _ (of_decide_eq_true (by first | (with_reducible assumption) | assumption) : t119.toNat ≤ 281474976710656)) (by omega)) (Below.refl _ _) (Nat.le_refl _) ?_; intro v140 w28 ho29 hb hg_ hnew_; clear hg_ hnew_; (first | rw [← Ny139.out] at ho29 | (simp only [Int.reduceToNat] at ho29; rw [← Ny139.out] at ho29)); have n0_ := Aside0.mk (Kd.N_elder' (by (with_reducible repeat (first | apply Kd.N_alloc | apply Kd.N_drewN | apply Kd.N_drew)); exact HO_6.out) (Kd.R_base ho29) hb); have n1_ := Aside0.mk (Kd.N_elder' (by (with_reducible repeat (first | apply Kd.N_alloc | apply Kd.N_drewN | apply Kd.N_drew)); exact HO_8.out) (Kd.R_base ho29) hb); have n2_ := Aside0.mk (Kd.R_lower (Kd.R_newM (M := fun k_ => (w.heap.size ≤ k_)) ho29 (below_size (by repeat (first | (with_reducible first | exact HB.out | apply below_alloc | apply pw_below_drewN | apply below_drew1 | refine below_set ?_ GE118.out) | exact HB.out))) (fun k_ h_ => h_)) (below_size (by repeat (first | (with_reducible first | exact HB.out | apply below_alloc | apply pw_below_drewN | apply below_drew1 | refine below_set ?_ GE118.out) | exact HB.out)))); have n3_ := Aside0.mk (blk_below (g := gb118) (o := .cells #[.int .i64 a0_0, .int .i64 a0_1, .int .i64 a0_2, .int .i64 a0_3] 27 (0, 0)) (by (with_reducible repeat (first | refine blk_drewN ?_ _ | refine blk_drew ?_ | refine blk_alloc ?_ _)); exact BK118.out) hb); have n4_ := Aside0.mk (below_step (by repeat (first | (with_reducible first | exact HB.out | apply below_alloc | apply pw_below_drewN | apply below_drew1 | refine below_set ?_ GE118.out) | exact HB.out)) hb); clear HO_6; clear HO_8; clear BK118; clear HB; have HO_6 := n0_; have HO_8 := n1_; have HO141 := n2_; have BK118 := n3_; have HB := n4_; clear n0_ n1_ n2_ n3_ n4_; clear hb ho29))
           go_loopg [11] k2 (fun kq v11 w' => ∃ (x10_3 : List Bool) (x11_3 : Int), v11 = .int .i64 x11_3 ∧ Aside0 (spec_l4Measured.l2 kq a1 t119 x6_1 x8_2 x9_2 x10_3 x11_3 = some r) ∧ Aside0 (kq ≤ k2) ∧ Aside0 (Kd.N (Kd.slice 98 k98) 95 w' w.heap.size (fun k_ => (w.heap.size ≤ k_) ∧ some k_ ≠ (u8 : Value).ownBlock ∧ some k_ ≠ (v140 : Value).ownBlock ∧ k_ ≠ gb118) u6 x6_1) ∧ Aside0 (Kd.N (Kd.slice 4 Kd.bool) 60 w' w.heap.size (fun k_ => (w.heap.size ≤ k_) ∧ some k_ ≠ (u6 : Value).ownBlock ∧ some k_ ≠ (v140 : Value).ownBlock ∧ k_ ≠ gb118) u8 x8_2) ∧ Aside0 (Kd.R Kd.bool 4 w' w.heap.size (fun k_ => (w.heap.size ≤ k_)) v140 x10_3) ∧ Aside0 (w'.heap[gb118]? = some (.cells #[.int .i64 a0_0, .int .i64 a0_1, .int .i64 a0_2, .int .i64 a0_3] 27 (0, 0))) ∧ Aside0 (Below w.heap.size w w'))
           case atStart => exact ⟨(y139), (0), (by first | rfl | (simp; done) | (simp [*]; done)), H', ⟨Nat.le_refl _⟩, ⟨by (with_reducible repeat (first | apply Kd.N_alloc | apply Kd.N_drewN | apply Kd.N_drew)); exact Kd.N_mono HO_6.out (fun _ hk => ⟨hk.1.1, ⟨hk.1.2.1, ⟨hk.2, hk.1.2.2⟩⟩⟩)⟩, ⟨by (with_reducible repeat (first | apply Kd.N_alloc | apply Kd.N_drewN | apply Kd.N_drew)); exact Kd.N_mono HO_8.out (fun _ hk => ⟨hk.1.1, ⟨hk.1.2.1, ⟨hk.2, hk.1.2.2⟩⟩⟩)⟩, ⟨by (with_reducible repeat (first | apply Kd.R_alloc | apply Kd.R_drewN | apply Kd.R_drew)); exact Kd.R_mono HO141.out (fun _ hk => hk.1)⟩, ⟨by (with_reducible repeat (first | refine blk_drewN ?_ _ | refine blk_drew ?_ | refine blk_alloc ?_ _)); exact BK118.out⟩, ⟨by repeat (first | (with_reducible first | exact HB.out | apply below_alloc | apply pw_below_drewN | apply below_drew1 | refine below_set ?_ GE118.out) | exact HB.out)⟩⟩
           case round =>
            clear H'
            try clear c1
            try clear c2
            try clear p2
            try clear c5
            try clear p6
            try clear c7
            try clear c9
            try clear c9b0
            try clear c12
            try clear c18
            try clear c18b0
            try clear c18b1
            try clear c19
            try clear c19b0
            try clear c19b1
            try clear c25
            try clear c25b0
            try clear c26
            try clear c26b0
            try clear c26b1
            try clear c27
            try clear c27b0
            try clear c27b1
            try clear hcz5_0
            try clear hcz5_1
            try clear hcz5_2
            try clear hcz5_3
            try clear hfz5_0
            try clear hfz5_1
            try clear hfz5_2
            try clear hfz5_3
            try clear p2
            try clear p6
            obtain ⟨x10_3, x11_3, rfl, HA, HK3, HO_6, HO_8, HO_10, BK118, HB⟩ := hrel
            cases gk with
            | zero => exact absurd HA.out (by simp [spec_l4Measured.l2])
            | succ k3 =>
             have H := HA.out
             clear HA
             simp only [spec_l4Measured.l2] at H
             by_cases c30 : x11_3 < t119
             ·rw [if_pos c30] at H
              have c30b0 : decide (x11_3 < t119) = true := decide_eq_true c30
              clear c30
              have H' := Aside0.mk H
              clear H
              go_wp2
              go_loopg [12] k3 (fun kq v12 w' => ∃ (x10_4 : List Bool) (x12_4 : Int), v12 = .int .i64 x12_4 ∧ Aside0 (spec_l4Measured.l3 kq a1 t119 x6_1 x8_2 x9_2 x10_4 x11_3 x12_4 = some r) ∧ Aside0 (kq ≤ k3) ∧ Aside0 (Kd.N (Kd.slice 98 k98) 95 w' w.heap.size (fun k_ => (w.heap.size ≤ k_) ∧ some k_ ≠ (u8 : Value).ownBlock ∧ some k_ ≠ (v140 : Value).ownBlock ∧ k_ ≠ gb118) u6 x6_1) ∧ Aside0 (Kd.N (Kd.slice 4 Kd.bool) 60 w' w.heap.size (fun k_ => (w.heap.size ≤ k_) ∧ some k_ ≠ (u6 : Value).ownBlock ∧ some k_ ≠ (v140 : Value).ownBlock ∧ k_ ≠ gb118) u8 x8_2) ∧ Aside0 (Kd.R Kd.bool 4 w' w.heap.size (fun k_ => (w.heap.size ≤ k_)) v140 x10_4) ∧ Aside0 (w'.heap[gb118]? = some (.cells #[.int .i64 a0_0, .int .i64 a0_1, .int .i64 a0_2, .int .i64 a0_3] 27 (0, 0))) ∧ Aside0 (Below w.heap.size w w'))
              case atStart => exact ⟨(x10_3), (0), (by first | rfl | (simp; done) | (simp [*]; done)), H', ⟨Nat.le_refl _⟩, ⟨by (with_reducible repeat (first | apply Kd.N_alloc | apply Kd.N_drewN | apply Kd.N_drew)); exact HO_6.out⟩, ⟨by (with_reducible repeat (first | apply Kd.N_alloc | apply Kd.N_drewN | apply Kd.N_drew)); exact HO_8.out⟩, ⟨by (with_reducible repeat (first | apply Kd.R_alloc | apply Kd.R_drewN | apply Kd.R_drew)); exact HO_10.out⟩, ⟨by (with_reducible repeat (first | refine blk_drewN ?_ _ | refine blk_drew ?_ | refine blk_alloc ?_ _)); exact BK118.out⟩, ⟨by repeat (first | (with_reducible first | exact HB.out | apply below_alloc | apply pw_below_drewN | apply below_drew1 | refine below_set ?_ GE118.out) | exact HB.out)⟩⟩
              case round =>
               clear H'
               try clear c1
               try clear c2
               try clear p2
               try clear c3
               try clear c5
               try clear p6
               try clear c7
               try clear c9
               try clear c9b0
               try clear c12
               try clear c18
               try clear c18b0
               try clear c18b1
               try clear c19
               try clear c19b0
               try clear c19b1
               try clear c25
               try clear c25b0
               try clear c26
               try clear c26b0
               try clear c26b1
               try clear c27
               try clear c27b0
               try clear c27b1
               try clear c30
               try clear c30b0
               try clear hcz5_0
               try clear hcz5_1
               try clear hcz5_2
               try clear hcz5_3
               try clear hfz5_0
               try clear hfz5_1
               try clear hfz5_2
               try clear hfz5_3
               try clear p2
               try clear p6
               obtain ⟨x10_4, x12_4, rfl, HA, HK4, HO_6, HO_8, HO_10, BK118, HB⟩ := hrel
               cases gk with
               | zero => exact absurd HA.out (by simp [spec_l4Measured.l3])
               | succ k4 =>
                have H := HA.out
                clear HA
                simp only [spec_l4Measured.l3] at H
                by_cases c31 : 0 ≤ x11_3
                ·rw [if_pos c31] at H
                 have c31b0 : decide (0 ≤ x11_3) = true := decide_eq_true c31
                 clear c31
                 by_cases c32 : x11_3 < (x6_1.length : Int)
                 ·rw [if_pos c32] at H
                  have c32b0 : decide (x11_3 < (x6_1.length : Int)) = true := decide_eq_true c32
                  clear c32
                  by_cases c33 : x12_4 < ((rd_L5 x6_1 x11_3).length : Int)
                  ·rw [if_pos c33] at H
                   have c33b0 : decide (x12_4 < ((rd_L5 x6_1 x11_3).length : Int)) = true := decide_eq_true c33
                   clear c33
                   by_cases c34 : x11_3 < (x10_4.length : Int)
                   ·rw [if_pos c34] at H
                    have c34b0 : decide (x11_3 < (x10_4.length : Int)) = true := decide_eq_true c34
                    clear c34
                    obtain ⟨bq35, hbq35⟩ : ∃ b_ : Bool, b_ = (rdOf false x10_4 x11_3) := ⟨_, rfl⟩
                    replace H : (if bq35 = true then (spec_l4Measured.l2 k4 a1 t119 x6_1 x8_2 x9_2 x10_4 (wrap64 (x11_3 + 1))) else (if 0 ≤ x12_4 then (if ((rd_T98 (rd_L5 x6_1 x11_3) x12_4).f1) = x9_2 then (spec_l4Measured.l3 k4 a1 t119 x6_1 x8_2 x9_2 (x10_4.set (x11_3 : Int).toNat true) x11_3 (wrap64 (x12_4 + 1))) else (if ((rd_T98 (rd_L5 x6_1 x11_3) x12_4).f1) < x9_2 then (if 0 ≤ (wrap64 (x9_2 - ((rd_T98 (rd_L5 x6_1 x11_3) x12_4).f1))) then (if (wrap64 (x9_2 - ((rd_T98 (rd_L5 x6_1 x11_3) x12_4).f1))) < (x8_2.length : Int) then (if 0 ≤ ((rd_T98 (rd_L5 x6_1 x11_3) x12_4).f0) then (if ((rd_T98 (rd_L5 x6_1 x11_3) x12_4).f0) < ((rd_L6 x8_2 (wrap64 (x9_2 - ((rd_T98 (rd_L5 x6_1 x11_3) x12_4).f1)))).length : Int) then (spec_l4Measured.l3 k4 a1 t119 x6_1 x8_2 x9_2 (x10_4.set (x11_3 : Int).toNat (rdOf false (rd_L6 x8_2 (wrap64 (x9_2 - ((rd_T98 (rd_L5 x6_1 x11_3) x12_4).f1)))) ((rd_T98 (rd_L5 x6_1 x11_3) x12_4).f0))) x11_3 (wrap64 (x12_4 + 1))) else (none)) else (none)) else (none)) else (none)) else (spec_l4Measured.l3 k4 a1 t119 x6_1 x8_2 x9_2 (x10_4.set (x11_3 : Int).toNat false) x11_3 (wrap64 (x12_4 + 1))))) else (none))) = some r := by rw [← hbq35] at H; exact H
                    have Nbq35 := Aside0.mk hbq35
                    clear hbq35
                    by_cases c36 : bq35 = true
                    ·subst c36
                     have H1 : (spec_l4Measured.l2 k4 a1 t119 x6_1 x8_2 x9_2 x10_4 (wrap64 (x11_3 + 1))) = some r := by rw [if_pos rfl] at H; exact H
                     clear H
                     have H := H1
                     clear H1
                     have H' := Aside0.mk H
                     clear H
                     obtain ⟨Ao37, co37, eo37⟩ := Kd.N_slice HO_6.out
                     subst eo37
                     have p145 : 0 ≤ (x11_3 : Int) := of_decide_eq_true (by first | (with_reducible assumption) | assumption)
                     have q145 : x11_3 < (x6_1.length : Int) := of_decide_eq_true (by first | (with_reducible assumption) | assumption)
                     obtain ⟨ad145, A145_0, c145_0, e145, hx145_0, hl145_0, hi145_0⟩ := at_L5 (Kd.N_reads' HO_6.out).2.2 x11_3 p145 q145
                     cases e145
                     obtain ⟨ce145, hce145, hMe145, hcc145⟩ := Kd.N_get HO_6.out [] x11_3 p145 (by first | exact q145 | exact of_decide_eq_true (by first | (with_reducible assumption) | assumption) | (have e_ := (Kd.N_reads' HO_6.out).1; omega))
                     obtain ⟨ua145_0, uc145_0, rfl, ul145_0, ge145_0⟩ := Kd.FK_slice_open hMe145
                     have hv145_0 := hcc145 0 _ rfl
                     rw [Nat.add_zero, show ((Kd.slice 98 k98)).sz = 1 from rfl, Nat.mul_one] at hv145_0
                     replace hv145_0 := Option.some.inj (hv145_0.symm.trans hx145_0)
                     injection hv145_0 with hva_ hvn_ hvc_
                     rw [hva_] at ge145_0
                     rw [hvc_] at ul145_0
                     have HL145_0 := Aside0.mk (show Kd.V k98 98 _ w.heap.size _ _ (rd_L5 x6_1 x11_3) from Kd.V_mk ul145_0 ge145_0)
                     clear hva_ hvn_ hvc_ ge145_0 ul145_0
                     clear hcc145 hce145
                     have HR145_0 := Aside0.mk hi145_0
                     have HC145_0 := Aside0.mk hl145_0
                     clear hi145_0 hl145_0
                     replace p145 := eq_true p145
                     replace q145 := eq_true q145
                     obtain ⟨Ao38, co38, eo38⟩ := Kd.R_slice HO_10.out
                     subst eo38
                     have p146 : 0 ≤ (x11_3 : Int) := of_decide_eq_true (by first | (with_reducible assumption) | assumption)
                     have q146 : x11_3 < (x10_4.length : Int) := of_decide_eq_true (by first | (with_reducible assumption) | assumption)
                     obtain ⟨ad146, e146, hx146_0⟩ := Kd.at_bool (Kd.R_reads' HO_10.out).2.2 x11_3 p146 q146
                     (try rw [← Nbq35.out] at hx146_0)
                     cases e146
                     replace p146 := eq_true p146
                     replace q146 := eq_true q146
                     go_wp2
                     go_roundg k4
                     case measure => have := HK1.out; have := HK2.out; have := HK3.out; have := HK4.out; omega
                     case rel => exact ⟨(x10_4), (wrap64 (x11_3 + 1)), (by first | rfl | (simp; done) | (simp [*]; done)), H', ⟨by have := HK1.out; have := HK2.out; have := HK3.out; have := HK4.out; omega⟩, ⟨by (with_reducible repeat (first | apply Kd.N_alloc | apply Kd.N_drewN | apply Kd.N_drew)); exact HO_6.out⟩, ⟨by (with_reducible repeat (first | apply Kd.N_alloc | apply Kd.N_drewN | apply Kd.N_drew)); exact HO_8.out⟩, ⟨by (with_reducible repeat (first | apply Kd.R_alloc | apply Kd.R_drewN | apply Kd.R_drew)); exact HO_10.out⟩, ⟨by (with_reducible repeat (first | refine blk_drewN ?_ _ | refine blk_drew ?_ | refine blk_alloc ?_ _)); exact BK118.out⟩, ⟨by repeat (first | (with_reducible first | exact HB.out | apply below_alloc | apply pw_below_drewN | apply below_drew1 | refine below_set ?_ GE118.out) | exact HB.out)⟩⟩
                    ·replace c36 := Bool.eq_false_iff.mpr c36
                     subst c36
                     have H1 : (if 0 ≤ x12_4 then (if ((rd_T98 (rd_L5 x6_1 x11_3) x12_4).f1) = x9_2 then (spec_l4Measured.l3 k4 a1 t119 x6_1 x8_2 x9_2 (x10_4.set (x11_3 : Int).toNat true) x11_3 (wrap64 (x12_4 + 1))) else (if ((rd_T98 (rd_L5 x6_1 x11_3) x12_4).f1) < x9_2 then (if 0 ≤ (wrap64 (x9_2 - ((rd_T98 (rd_L5 x6_1 x11_3) x12_4).f1))) then (if (wrap64 (x9_2 - ((rd_T98 (rd_L5 x6_1 x11_3) x12_4).f1))) < (x8_2.length : Int) then (if 0 ≤ ((rd_T98 (rd_L5 x6_1 x11_3) x12_4).f0) then (if ((rd_T98 (rd_L5 x6_1 x11_3) x12_4).f0) < ((rd_L6 x8_2 (wrap64 (x9_2 - ((rd_T98 (rd_L5 x6_1 x11_3) x12_4).f1)))).length : Int) then (spec_l4Measured.l3 k4 a1 t119 x6_1 x8_2 x9_2 (x10_4.set (x11_3 : Int).toNat (rdOf false (rd_L6 x8_2 (wrap64 (x9_2 - ((rd_T98 (rd_L5 x6_1 x11_3) x12_4).f1)))) ((rd_T98 (rd_L5 x6_1 x11_3) x12_4).f0))) x11_3 (wrap64 (x12_4 + 1))) else (none)) else (none)) else (none)) else (none)) else (spec_l4Measured.l3 k4 a1 t119 x6_1 x8_2 x9_2 (x10_4.set (x11_3 : Int).toNat false) x11_3 (wrap64 (x12_4 + 1))))) else (none)) = some r := by rw [if_neg (show ¬ (false = true) by decide)] at H; exact H
                     clear H
                     have H := H1
                     clear H1
                     by_cases c39 : 0 ≤ x12_4
                     ·rw [if_pos c39] at H
                      have c39b0 : decide (0 ≤ x12_4) = true := decide_eq_true c39
                      clear c39
                      by_cases c40 : ((rd_T98 (rd_L5 x6_1 x11_3) x12_4).f1) = x9_2
                      ·rw [if_pos c40] at H
                       have c40b0 : (((rd_T98 (rd_L5 x6_1 x11_3) x12_4).f1) == x9_2) = true := beq_iff_eq.mpr c40
                       have c40b1 : (((rd_T98 (rd_L5 x6_1 x11_3) x12_4).f1) != x9_2) = false := bne_eq_false_iff_eq.mpr c40
                       clear c40
                       obtain ⟨y149, hy149⟩ : ∃ y_ : List Bool, y_ = (x10_4.set (x11_3 : Int).toNat true) := ⟨_, rfl⟩
                       replace H : (spec_l4Measured.l3 k4 a1 t119 x6_1 x8_2 x9_2 y149 x11_3 (wrap64 (x12_4 + 1))) = some r := by first | (rw [hy149]; with_reducible exact H) | (have H2_ := (Option.bind_some _ _).symm.trans H; rw [hy149]; with_reducible exact H2_) | (have H2_ := (Option.bind_some _ _).symm.trans H; with_reducible exact H2_) | with_reducible exact H | (rw [hy149]; exact H) | exact H
                       have Ny149 := Aside0.mk hy149
                       clear hy149
                       have H' := Aside0.mk H
                       clear H
                       obtain ⟨Ao42, co42, eo42⟩ := Kd.N_slice HO_6.out
                       subst eo42
                       have p145 : 0 ≤ (x11_3 : Int) := of_decide_eq_true (by first | (with_reducible assumption) | assumption)
                       have q145 : x11_3 < (x6_1.length : Int) := of_decide_eq_true (by first | (with_reducible assumption) | assumption)
                       obtain ⟨ad145, A145_0, c145_0, e145, hx145_0, hl145_0, hi145_0⟩ := at_L5 (Kd.N_reads' HO_6.out).2.2 x11_3 p145 q145
                       cases e145
                       obtain ⟨ce145, hce145, hMe145, hcc145⟩ := Kd.N_get HO_6.out [] x11_3 p145 (by first | exact q145 | exact of_decide_eq_true (by first | (with_reducible assumption) | assumption) | (have e_ := (Kd.N_reads' HO_6.out).1; omega))
                       obtain ⟨ua145_0, uc145_0, rfl, ul145_0, ge145_0⟩ := Kd.FK_slice_open hMe145
                       have hv145_0 := hcc145 0 _ rfl
                       rw [Nat.add_zero, show ((Kd.slice 98 k98)).sz = 1 from rfl, Nat.mul_one] at hv145_0
                       replace hv145_0 := Option.some.inj (hv145_0.symm.trans hx145_0)
                       injection hv145_0 with hva_ hvn_ hvc_
                       rw [hva_] at ge145_0
                       rw [hvc_] at ul145_0
                       have HL145_0 := Aside0.mk (show Kd.V k98 98 _ w.heap.size _ _ (rd_L5 x6_1 x11_3) from Kd.V_mk ul145_0 ge145_0)
                       clear hva_ hvn_ hvc_ ge145_0 ul145_0
                       clear hcc145 hce145
                       have HR145_0 := Aside0.mk hi145_0
                       have HC145_0 := Aside0.mk hl145_0
                       clear hi145_0 hl145_0
                       replace p145 := eq_true p145
                       replace q145 := eq_true q145
                       obtain ⟨Ao43, co43, eo43⟩ := Kd.R_slice HO_10.out
                       subst eo43
                       have p146 : 0 ≤ (x11_3 : Int) := of_decide_eq_true (by first | (with_reducible assumption) | assumption)
                       have q146 : x11_3 < (x10_4.length : Int) := of_decide_eq_true (by first | (with_reducible assumption) | assumption)
                       obtain ⟨ad146, e146, hx146_0⟩ := Kd.at_bool (Kd.R_reads' HO_10.out).2.2 x11_3 p146 q146
                       (try rw [← Nbq35.out] at hx146_0)
                       cases e146
                       replace p146 := eq_true p146
                       replace q146 := eq_true q146
                       have p147 : 0 ≤ (x11_3 : Int) := of_decide_eq_true (by first | (with_reducible assumption) | assumption)
                       have q147 : x11_3 < (x6_1.length : Int) := of_decide_eq_true (by first | (with_reducible assumption) | assumption)
                       obtain ⟨ad147, A147_0, c147_0, e147, hx147_0, hl147_0, hi147_0⟩ := at_L5 (Kd.N_reads' HO_6.out).2.2 x11_3 p147 q147
                       obtain rfl : ad145 = ad147 := (by injection e147)
                       obtain ⟨ce147, hce147, hMe147, hcc147⟩ := Kd.N_get HO_6.out [] x11_3 p147 (by first | exact q147 | exact of_decide_eq_true (by first | (with_reducible assumption) | assumption) | (have e_ := (Kd.N_reads' HO_6.out).1; omega))
                       obtain ⟨ua147_0, uc147_0, rfl, ul147_0, ge147_0⟩ := Kd.FK_slice_open hMe147
                       have hv147_0 := hcc147 0 _ rfl
                       rw [Nat.add_zero, show ((Kd.slice 98 k98)).sz = 1 from rfl, Nat.mul_one] at hv147_0
                       replace hv147_0 := Option.some.inj (hv147_0.symm.trans hx147_0)
                       injection hv147_0 with hva_ hvn_ hvc_
                       rw [hva_] at ge147_0
                       rw [hvc_] at ul147_0
                       have HL147_0 := Aside0.mk (show Kd.V k98 98 _ w.heap.size _ _ (rd_L5 x6_1 x11_3) from Kd.V_mk ul147_0 ge147_0)
                       clear hva_ hvn_ hvc_ ge147_0 ul147_0
                       clear hcc147 hce147
                       have HR147_0 := Aside0.mk hi147_0
                       have HC147_0 := Aside0.mk hl147_0
                       clear hi147_0 hl147_0
                       replace p147 := eq_true p147
                       replace q147 := eq_true q147
                       have ea_ := Option.some.inj (hx145_0.symm.trans hx147_0)
                       injection ea_ with ea_ en_ ec_
                       subst ea_
                       subst ec_
                       clear en_
                       have p148 : 0 ≤ (x12_4 : Int) := of_decide_eq_true (by first | (with_reducible assumption) | assumption)
                       have q148 : x12_4 < ((rd_L5 x6_1 x11_3).length : Int) := of_decide_eq_true (by first | (with_reducible assumption) | assumption)
                       obtain ⟨ad148, e148, hx148_0, hx148_1⟩ := at_T98 (by repeat (first | (with_reducible exact HR147_0.out) | (with_reducible refine Kd.C_alloc ?_ _) | (with_reducible refine Kd.C_drewN ?_ _) | (with_reducible refine Kd.C_drew ?_) | exact HR147_0.out)) x12_4 p148 q148
                       cases e148
                       replace p148 := eq_true p148
                       replace q148 := eq_true q148
                       try go_wp2
                       have n0_ := Aside0.mk (Kd.N_drew HO_6.out)
                       have n1_ := Aside0.mk (Kd.N_drew HO_8.out)
                       have n2_ := Aside0.mk (Kd.R_drew HO_10.out)
                       have n3_ := Aside0.mk (Kd.V_drew HL145_0.out)
                       have n4_ := Aside0.mk (Kd.V_drew HL147_0.out)
                       have n5_ := Aside0.mk (blk_drew BK118.out)
                       have n6_ := Aside0.mk (Kd.C_drew HR145_0.out)
                       have n7_ := Aside0.mk (Kd.C_drew HR147_0.out)
                       have n8_ := Aside0.mk (below_drew1 HB.out)
                       clear HO_6
                       clear HO_8
                       clear HO_10
                       clear HL145_0
                       clear HL147_0
                       clear BK118
                       clear HR145_0
                       clear HR147_0
                       clear HB
                       have HO_6 := n0_
                       have HO_8 := n1_
                       have HO_10 := n2_
                       have HL145_0 := n3_
                       have HL147_0 := n4_
                       have BK118 := n5_
                       have HR145_0 := n6_
                       have HR147_0 := n7_
                       have HB := n8_
                       clear n0_ n1_ n2_ n3_ n4_ n5_ n6_ n7_ n8_
                       have p41 : 0 ≤ (x11_3 : Int) := of_decide_eq_true (by first | (with_reducible assumption) | assumption)
                       have q41 : (x11_3 : Int) < ((x10_4.length : Int) : Int) := of_decide_eq_true (by first | (with_reducible assumption) | assumption)
                       obtain ⟨go41, co41, eo41, gb41, gl41, cl41, HG41⟩ := Kd.R_form HO_10.out (by omega)
                       (first | cases eo41 | (injection eo41 with ea_ en_ ec_; (first | subst ea_ | (injection ea_ with ea_; subst ea_)); subst ec_; clear en_))
                       have GB41 := Aside0.mk gb41
                       have GG41 := Aside0.mk HG41
                       clear gb41 gl41 HG41
                       (first | simp only [add_plain] at hx146_0 | skip)
                       obtain ⟨hx41_0, hf41_0⟩ := Kd.R_celln false HO_10.out (x11_3 : Int) p41 q41
                       replace p41 := eq_true p41
                       replace q41 := eq_true q41
                       have HP45 := Kd.R_putn HO_10.out (x11_3 : Int) true
                       rw [← Ny149.out] at HP45
                       have HQ45 := Aside0.mk HP45
                       clear HP45
                       refine start_ (n := 30) (S := fun w' => True) (ds := [29]) #[false, false, false, false, false, false, false, false, false, false, false, false, false, false, false, false, false, false, false, false, false, false, false, false, false, false, false, false, false, false] (by kernel_rfl) rfl rfl trivial (fun hHeld => ?_); refine with_tabW spec_l4Measured.tab19 spec_l4Measured.bits19 (fun HT_ HW_ => ?_)
                       generalize wr.drew = w44 at HO_6 HO_8 HO_10 HL145_0 HL147_0 BK118 HR145_0 HR147_0 HB GG41 HQ45 hf41_0 hx146_0 hx41_0 hHeld ⊢
                       refine pure_ (i := 0) (N := some 69) (v := ?_) (a' := ?_) #[true, false, false, false, false, false, false, false, false, false, false, false, false, false, false, false, false, false, false, false, false, false, false, false, false, false, false, false, false, false] rfl rfl (any_of HT_.out (by kernel_rfl)) (fun _ _ _ h => h) (Or.inl ⟨by rfl, ?_⟩) ?_ ?_
                       rotate_left
                       ·intro w'
                        go_simp
                        with_reducible rfl
                       rotate_left
                       ·simp only [Act.put, List.setIfInBounds_toArray, List.set_cons_zero, List.set_cons_succ, i64_w, i32_w]
                        rfl
                       refine pure_ (i := 1) (N := some 70) (v := ?_) (a' := ?_) #[true, true, false, false, false, false, false, false, false, false, false, false, false, false, false, false, false, false, false, false, false, false, false, false, false, false, false, false, false, false] rfl rfl (any_of HT_.out (by kernel_rfl)) (fun _ _ _ h => h) (Or.inl ⟨by rfl, ?_⟩) ?_ ?_
                       rotate_left
                       ·intro w'
                        go_simp
                        with_reducible rfl
                       rotate_left
                       ·simp only [Act.put, List.setIfInBounds_toArray, List.set_cons_zero, List.set_cons_succ, i64_w, i32_w]
                        rfl
                       refine pure_ (i := 2) (N := some 71) (v := ?_) (a' := ?_) #[true, true, true, false, false, false, false, false, false, false, false, false, false, false, false, false, false, false, false, false, false, false, false, false, false, false, false, false, false, false] rfl rfl (any_of HT_.out (by kernel_rfl)) (fun _ _ _ h => h) (Or.inl ⟨by rfl, ?_⟩) ?_ ?_
                       rotate_left
                       ·intro w'
                        go_simp
                        with_reducible rfl
                       rotate_left
                       ·simp only [Act.put, List.setIfInBounds_toArray, List.set_cons_zero, List.set_cons_succ, i64_w, i32_w]
                        rfl
                       refine pure_ (i := 3) (N := some 72) (v := ?_) (a' := ?_) #[true, true, true, true, false, false, false, false, false, false, false, false, false, false, false, false, false, false, false, false, false, false, false, false, false, false, false, false, false, false] rfl rfl (any_of HT_.out (by kernel_rfl)) (fun _ _ _ h => h) (Or.inl ⟨by rfl, ?_⟩) ?_ ?_
                       rotate_left
                       ·intro w'
                        go_simp
                        with_reducible rfl
                       rotate_left
                       ·simp only [Act.put, List.setIfInBounds_toArray, List.set_cons_zero, List.set_cons_succ, i64_w, i32_w]
                        rfl
                       refine pure_ (i := 4) (N := some 73) (v := ?_) (a' := ?_) #[true, true, true, true, true, false, false, false, false, false, false, false, false, false, false, false, false, false, false, false, false, false, false, false, false, false, false, false, false, false] rfl rfl (any_of HT_.out (by kernel_rfl)) (fun _ _ _ h => h) (Or.inl ⟨by rfl, ?_⟩) ?_ ?_
                       rotate_left
                       ·intro w'
                        go_simp
                        with_reducible rfl
                       rotate_left
                       ·simp only [Act.put, List.setIfInBounds_toArray, List.set_cons_zero, List.set_cons_succ, i64_w, i32_w]
                        rfl
                       refine pure_ (i := 5) (N := some 74) (v := ?_) (a' := ?_) #[true, true, true, true, true, true, false, false, false, false, false, false, false, false, false, false, false, false, false, false, false, false, false, false, false, false, false, false, false, false] rfl rfl (any_of HT_.out (by kernel_rfl)) (fun _ _ _ h => h) (Or.inl ⟨by rfl, ?_⟩) ?_ ?_
                       rotate_left
                       ·intro w'
                        go_simp
                        with_reducible rfl
                       rotate_left
                       ·simp only [Act.put, List.setIfInBounds_toArray, List.set_cons_zero, List.set_cons_succ, i64_w, i32_w]
                        rfl
                       refine pure_ (i := 6) (N := some 75) (v := undef) (a' := ?_) #[true, true, true, true, true, true, true, false, false, false, false, false, false, false, false, false, false, false, false, false, false, false, false, false, false, false, false, false, false, false] rfl rfl (any_of HT_.out (by kernel_rfl)) (fun _ _ _ h => h) (Or.inr ⟨by rfl, rfl⟩) ?_ ?_
                       rotate_left
                       ·simp only [Act.put, List.setIfInBounds_toArray, List.set_cons_zero, List.set_cons_succ, i64_w, i32_w]
                        rfl
                       refine pure_ (i := 7) (N := some 76) (v := undef) (a' := ?_) #[true, true, true, true, true, true, true, true, false, false, false, false, false, false, false, false, false, false, false, false, false, false, false, false, false, false, false, false, false, false] rfl rfl (any_of HT_.out (by kernel_rfl)) (fun _ _ _ h => h) (Or.inr ⟨by rfl, rfl⟩) ?_ ?_
                       rotate_left
                       ·simp only [Act.put, List.setIfInBounds_toArray, List.set_cons_zero, List.set_cons_succ, i64_w, i32_w]
                        rfl
                       refine pure_ (i := 8) (N := some 77) (v := undef) (a' := ?_) #[true, true, true, true, true, true, true, true, true, false, false, false, false, false, false, false, false, false, false, false, false, false, false, false, false, false, false, false, false, false] rfl rfl (any_of HT_.out (by kernel_rfl)) (fun _ _ _ h => h) (Or.inr ⟨by rfl, rfl⟩) ?_ ?_
                       rotate_left
                       ·simp only [Act.put, List.setIfInBounds_toArray, List.set_cons_zero, List.set_cons_succ, i64_w, i32_w]
                        rfl
                       refine pure_ (i := 9) (N := some 78) (v := undef) (a' := ?_) #[true, true, true, true, true, true, true, true, true, true, false, false, false, false, false, false, false, false, false, false, false, false, false, false, false, false, false, false, false, false] rfl rfl (any_of HT_.out (by kernel_rfl)) (fun _ _ _ h => h) (Or.inr ⟨by rfl, rfl⟩) ?_ ?_
                       rotate_left
                       ·simp only [Act.put, List.setIfInBounds_toArray, List.set_cons_zero, List.set_cons_succ, i64_w, i32_w]
                        rfl
                       refine pure_ (i := 10) (N := some 79) (v := undef) (a' := ?_) #[true, true, true, true, true, true, true, true, true, true, true, false, false, false, false, false, false, false, false, false, false, false, false, false, false, false, false, false, false, false] rfl rfl (any_of HT_.out (by kernel_rfl)) (fun _ _ _ h => h) (Or.inr ⟨by rfl, rfl⟩) ?_ ?_
                       rotate_left
                       ·simp only [Act.put, List.setIfInBounds_toArray, List.set_cons_zero, List.set_cons_succ, i64_w, i32_w]
                        rfl
                       refine pure_ (i := 11) (N := some 80) (v := undef) (a' := ?_) #[true, true, true, true, true, true, true, true, true, true, true, true, false, false, false, false, false, false, false, false, false, false, false, false, false, false, false, false, false, false] rfl rfl (any_of HT_.out (by kernel_rfl)) (fun _ _ _ h => h) (Or.inr ⟨by rfl, rfl⟩) ?_ ?_
                       rotate_left
                       ·simp only [Act.put, List.setIfInBounds_toArray, List.set_cons_zero, List.set_cons_succ, i64_w, i32_w]
                        rfl
                       refine pure_ (i := 12) (N := some 81) (v := undef) (a' := ?_) #[true, true, true, true, true, true, true, true, true, true, true, true, true, false, false, false, false, false, false, false, false, false, false, false, false, false, false, false, false, false] rfl rfl (any_of HT_.out (by kernel_rfl)) (fun _ _ _ h => h) (Or.inr ⟨by rfl, rfl⟩) ?_ ?_
                       rotate_left
                       ·simp only [Act.put, List.setIfInBounds_toArray, List.set_cons_zero, List.set_cons_succ, i64_w, i32_w]
                        rfl
                       refine pure_ (i := 13) (N := some 82) (v := undef) (a' := ?_) #[true, true, true, true, true, true, true, true, true, true, true, true, true, true, false, false, false, false, false, false, false, false, false, false, false, false, false, false, false, false] rfl rfl (any_of HT_.out (by kernel_rfl)) (fun _ _ _ h => h) (Or.inr ⟨by rfl, rfl⟩) ?_ ?_
                       rotate_left
                       ·simp only [Act.put, List.setIfInBounds_toArray, List.set_cons_zero, List.set_cons_succ, i64_w, i32_w]
                        rfl
                       refine pure_ (i := 14) (N := some 83) (v := undef) (a' := ?_) #[true, true, true, true, true, true, true, true, true, true, true, true, true, true, true, false, false, false, false, false, false, false, false, false, false, false, false, false, false, false] rfl rfl (any_of HT_.out (by kernel_rfl)) (fun _ _ _ h => h) (Or.inr ⟨by rfl, rfl⟩) ?_ ?_
                       rotate_left
                       ·simp only [Act.put, List.setIfInBounds_toArray, List.set_cons_zero, List.set_cons_succ, i64_w, i32_w]
                        rfl
                       refine pure_ (i := 15) (N := some 84) (v := undef) (a' := ?_) #[true, true, true, true, true, true, true, true, true, true, true, true, true, true, true, true, false, false, false, false, false, false, false, false, false, false, false, false, false, false] rfl rfl (any_of HT_.out (by kernel_rfl)) (fun _ _ _ h => h) (Or.inr ⟨by rfl, rfl⟩) ?_ ?_
                       rotate_left
                       ·simp only [Act.put, List.setIfInBounds_toArray, List.set_cons_zero, List.set_cons_succ, i64_w, i32_w]
                        rfl
                       refine pure_ (i := 16) (N := some 85) (v := undef) (a' := ?_) #[true, true, true, true, true, true, true, true, true, true, true, true, true, true, true, true, true, false, false, false, false, false, false, false, false, false, false, false, false, false] rfl rfl (any_of HT_.out (by kernel_rfl)) (fun _ _ _ h => h) (Or.inr ⟨by rfl, rfl⟩) ?_ ?_
                       rotate_left
                       ·simp only [Act.put, List.setIfInBounds_toArray, List.set_cons_zero, List.set_cons_succ, i64_w, i32_w]
                        rfl
                       refine pure_ (i := 17) (N := some 86) (v := undef) (a' := ?_) #[true, true, true, true, true, true, true, true, true, true, true, true, true, true, true, true, true, true, false, false, false, false, false, false, false, false, false, false, false, false] rfl rfl (any_of HT_.out (by kernel_rfl)) (fun _ _ _ h => h) (Or.inr ⟨by rfl, rfl⟩) ?_ ?_
                       rotate_left
                       ·simp only [Act.put, List.setIfInBounds_toArray, List.set_cons_zero, List.set_cons_succ, i64_w, i32_w]
                        rfl
                       refine pure_ (i := 18) (N := some 87) (v := undef) (a' := ?_) #[true, true, true, true, true, true, true, true, true, true, true, true, true, true, true, true, true, true, true, false, false, false, false, false, false, false, false, false, false, false] rfl rfl (any_of HT_.out (by kernel_rfl)) (fun _ _ _ h => h) (Or.inr ⟨by rfl, rfl⟩) ?_ ?_
                       rotate_left
                       ·simp only [Act.put, List.setIfInBounds_toArray, List.set_cons_zero, List.set_cons_succ, i64_w, i32_w]
                        rfl
                       refine pure_ (i := 19) (N := some 88) (v := undef) (a' := ?_) #[true, true, true, true, true, true, true, true, true, true, true, true, true, true, true, true, true, true, true, true, false, false, false, false, false, false, false, false, false, false] rfl rfl (any_of HT_.out (by kernel_rfl)) (fun _ _ _ h => h) (Or.inr ⟨by rfl, rfl⟩) ?_ ?_
                       rotate_left
                       ·simp only [Act.put, List.setIfInBounds_toArray, List.set_cons_zero, List.set_cons_succ, i64_w, i32_w]
                        rfl
                       refine pure_ (i := 20) (N := some 89) (v := undef) (a' := ?_) #[true, true, true, true, true, true, true, true, true, true, true, true, true, true, true, true, true, true, true, true, true, false, false, false, false, false, false, false, false, false] rfl rfl (any_of HT_.out (by kernel_rfl)) (fun _ _ _ h => h) (Or.inr ⟨by rfl, rfl⟩) ?_ ?_
                       rotate_left
                       ·simp only [Act.put, List.setIfInBounds_toArray, List.set_cons_zero, List.set_cons_succ, i64_w, i32_w]
                        rfl
                       refine pure_ (i := 21) (N := some 90) (v := undef) (a' := ?_) #[true, true, true, true, true, true, true, true, true, true, true, true, true, true, true, true, true, true, true, true, true, true, false, false, false, false, false, false, false, false] rfl rfl (any_of HT_.out (by kernel_rfl)) (fun _ _ _ h => h) (Or.inr ⟨by rfl, rfl⟩) ?_ ?_
                       rotate_left
                       ·simp only [Act.put, List.setIfInBounds_toArray, List.set_cons_zero, List.set_cons_succ, i64_w, i32_w]
                        rfl
                       refine pure_ (i := 22) (N := some 91) (v := undef) (a' := ?_) #[true, true, true, true, true, true, true, true, true, true, true, true, true, true, true, true, true, true, true, true, true, true, true, false, false, false, false, false, false, false] rfl rfl (any_of HT_.out (by kernel_rfl)) (fun _ _ _ h => h) (Or.inr ⟨by rfl, rfl⟩) ?_ ?_
                       rotate_left
                       ·simp only [Act.put, List.setIfInBounds_toArray, List.set_cons_zero, List.set_cons_succ, i64_w, i32_w]
                        rfl
                       refine pure_ (i := 23) (N := some 92) (v := undef) (a' := ?_) #[true, true, true, true, true, true, true, true, true, true, true, true, true, true, true, true, true, true, true, true, true, true, true, true, false, false, false, false, false, false] rfl rfl (any_of HT_.out (by kernel_rfl)) (fun _ _ _ h => h) (Or.inr ⟨by rfl, rfl⟩) ?_ ?_
                       rotate_left
                       ·simp only [Act.put, List.setIfInBounds_toArray, List.set_cons_zero, List.set_cons_succ, i64_w, i32_w]
                        rfl
                       refine pure_ (i := 24) (N := some 93) (v := undef) (a' := ?_) #[true, true, true, true, true, true, true, true, true, true, true, true, true, true, true, true, true, true, true, true, true, true, true, true, true, false, false, false, false, false] rfl rfl (any_of HT_.out (by kernel_rfl)) (fun _ _ _ h => h) (Or.inr ⟨by rfl, rfl⟩) ?_ ?_
                       rotate_left
                       ·simp only [Act.put, List.setIfInBounds_toArray, List.set_cons_zero, List.set_cons_succ, i64_w, i32_w]
                        rfl
                       refine pure_ (i := 25) (N := some 94) (v := undef) (a' := ?_) #[true, true, true, true, true, true, true, true, true, true, true, true, true, true, true, true, true, true, true, true, true, true, true, true, true, true, false, false, false, false] rfl rfl (any_of HT_.out (by kernel_rfl)) (fun _ _ _ h => h) (Or.inr ⟨by rfl, rfl⟩) ?_ ?_
                       rotate_left
                       ·simp only [Act.put, List.setIfInBounds_toArray, List.set_cons_zero, List.set_cons_succ, i64_w, i32_w]
                        rfl
                       refine pure_ (i := 26) (N := some 95) (v := undef) (a' := ?_) #[true, true, true, true, true, true, true, true, true, true, true, true, true, true, true, true, true, true, true, true, true, true, true, true, true, true, true, false, false, false] rfl rfl (any_of HT_.out (by kernel_rfl)) (fun _ _ _ h => h) (Or.inr ⟨by rfl, rfl⟩) ?_ ?_
                       rotate_left
                       ·simp only [Act.put, List.setIfInBounds_toArray, List.set_cons_zero, List.set_cons_succ, i64_w, i32_w]
                        rfl
                       refine pure_ (i := 27) (N := some 96) (v := ?_) (a' := ?_) #[true, true, true, true, true, true, true, true, true, true, true, true, true, true, true, true, true, true, true, true, true, true, true, true, true, true, true, true, false, false] rfl rfl (any_of HT_.out (by kernel_rfl)) (fun _ _ _ h => h) (Or.inl ⟨by rfl, ?_⟩) ?_ ?_
                       rotate_left
                       ·intro w'
                        go_simp
                        with_reducible rfl
                       rotate_left
                       ·simp only [Act.put, List.setIfInBounds_toArray, List.set_cons_zero, List.set_cons_succ, i64_w, i32_w]
                        rfl
                       refine pure_ (i := 28) (N := some 97) (v := ?_) (a' := ?_) #[true, true, true, true, true, true, true, true, true, true, true, true, true, true, true, true, true, true, true, true, true, true, true, true, true, true, true, true, true, false] rfl rfl (any_of HT_.out (by kernel_rfl)) (fun _ _ _ h => h) (Or.inl ⟨by rfl, ?_⟩) ?_ ?_
                       rotate_left
                       ·intro w'
                        go_simp
                        with_reducible rfl
                       rotate_left
                       ·simp only [Act.put, List.setIfInBounds_toArray, List.set_cons_zero, List.set_cons_succ, i64_w, i32_w]
                        rfl
                       refine last_ (i := 29) (N := none) #[true, true, true, true, true, true, true, true, true, true, true, true, true, true, true, true, true, true, true, true, true, true, true, true, true, true, true, true, true, true] rfl rfl (one_of HT_.out (by kernel_rfl)) (by decide) (fun K hK => ?_)
                       refine skip_ (w1 := ?_) (by rfl) rfl ?_ ?_
                       rotate_left
                       ·go_simp
                        rfl
                       refine hK.out _ _ ?_
                       clear hK K
                       refine done_ (done_of HT_.out (by kernel_rfl)) ?_
                       try go_wp2
                       go_roundg k4
                       case measure => have := HK1.out; have := HK2.out; have := HK3.out; have := HK4.out; omega
                       case rel => exact ⟨(y149), (wrap64 (x12_4 + 1)), (by first | rfl | (simp; done) | (simp [*]; done)), H', ⟨by have := HK1.out; have := HK2.out; have := HK3.out; have := HK4.out; omega⟩, ⟨by (with_reducible repeat (first | apply Kd.N_alloc | apply Kd.N_drewN | apply Kd.N_drew)); exact Kd.N_mono (Kd.N_far (p := ⟨go41, (x11_3 : Int).toNat, none⟩) (Kd.N_mono HO_6.out (fun k_ hk => (⟨hk, fun e_ => hk.2.2.1 (by rw [e_]; rfl)⟩ : _ ∧ k_ ≠ go41))) (fun _ hk => hk.2) (.bool true)) (fun _ hk => ⟨hk.1.1, ⟨hk.1.2.1, ⟨hk.1.2.2.1, hk.1.2.2.2⟩⟩⟩)⟩, ⟨by (with_reducible repeat (first | apply Kd.N_alloc | apply Kd.N_drewN | apply Kd.N_drew)); exact Kd.N_mono (Kd.N_far (p := ⟨go41, (x11_3 : Int).toNat, none⟩) (Kd.N_mono HO_8.out (fun k_ hk => (⟨hk, fun e_ => hk.2.2.1 (by rw [e_]; rfl)⟩ : _ ∧ k_ ≠ go41))) (fun _ hk => hk.2) (.bool true)) (fun _ hk => ⟨hk.1.1, ⟨hk.1.2.1, ⟨hk.1.2.2.1, hk.1.2.2.2⟩⟩⟩)⟩, ⟨by (with_reducible repeat (first | apply Kd.R_alloc | apply Kd.R_drewN | apply Kd.R_drew)); exact HQ45.out⟩, ⟨by (with_reducible repeat (first | refine blk_drewN ?_ _ | refine blk_drew ?_ | refine blk_alloc ?_ _)); refine blk_far ?_ (by have h_ := Kd.R_ne HO_10.out BK118.out (by decide); intro e_; exact h_ (by rw [e_]; rfl)) _; (with_reducible repeat (first | refine blk_drewN ?_ _ | refine blk_drew ?_ | refine blk_alloc ?_ _)); exact BK118.out⟩, ⟨by repeat (first | (with_reducible first | exact HB.out | apply below_alloc | apply pw_below_drewN | apply below_drew1 | refine below_set ?_ GB41.out | refine below_set ?_ GE118.out) | exact HB.out)⟩⟩
                      ·rw [if_neg c40] at H
                       have c40b0 : (((rd_T98 (rd_L5 x6_1 x11_3) x12_4).f1) == x9_2) = false := beq_eq_false_iff_ne.mpr c40
                       have c40b1 : (((rd_T98 (rd_L5 x6_1 x11_3) x12_4).f1) != x9_2) = true := bne_iff_ne.mpr c40
                       by_cases c46 : ((rd_T98 (rd_L5 x6_1 x11_3) x12_4).f1) < x9_2
                       ·rw [if_pos c46] at H
                        have c46b0 : decide (((rd_T98 (rd_L5 x6_1 x11_3) x12_4).f1) < x9_2) = true := decide_eq_true c46
                        clear c46
                        obtain ⟨ji47, hji47⟩ : ∃ j_ : Int, (wrap64 (x9_2 - ((rd_T98 (rd_L5 x6_1 x11_3) x12_4).f1))) = j_ := ⟨_, rfl⟩
                        replace H : (if 0 ≤ (ji47) then (if (ji47) < (x8_2.length : Int) then (if 0 ≤ ((rd_T98 (rd_L5 x6_1 x11_3) x12_4).f0) then (if ((rd_T98 (rd_L5 x6_1 x11_3) x12_4).f0) < ((rd_L6 x8_2 (ji47)).length : Int) then (spec_l4Measured.l3 k4 a1 t119 x6_1 x8_2 x9_2 (x10_4.set (x11_3 : Int).toNat (rdOf false (rd_L6 x8_2 (ji47)) ((rd_T98 (rd_L5 x6_1 x11_3) x12_4).f0))) x11_3 (wrap64 (x12_4 + 1))) else (none)) else (none)) else (none)) else (none)) = some r := by first | (rw [hji47] at H; exact H) | (simp only [hji47] at H ⊢; exact H)
                        have hji47w : (IntKind.i64.wrap (x9_2 - ((rd_T98 (rd_L5 x6_1 x11_3) x12_4).f1))) = ji47 := (i64_w _).trans hji47
                        by_cases c48 : 0 ≤ (ji47)
                        ·rw [if_pos c48] at H
                         have c48b0 : decide (0 ≤ (ji47)) = true := decide_eq_true c48
                         clear c48
                         by_cases c49 : (ji47) < (x8_2.length : Int)
                         ·rw [if_pos c49] at H
                          have c49b0 : decide ((ji47) < (x8_2.length : Int)) = true := decide_eq_true c49
                          clear c49
                          by_cases c50 : 0 ≤ ((rd_T98 (rd_L5 x6_1 x11_3) x12_4).f0)
                          ·rw [if_pos c50] at H
                           have c50b0 : decide (0 ≤ ((rd_T98 (rd_L5 x6_1 x11_3) x12_4).f0)) = true := decide_eq_true c50
                           clear c50
                           by_cases c51 : ((rd_T98 (rd_L5 x6_1 x11_3) x12_4).f0) < ((rd_L6 x8_2 (ji47)).length : Int)
                           ·rw [if_pos c51] at H
                            have c51b0 : decide (((rd_T98 (rd_L5 x6_1 x11_3) x12_4).f0) < ((rd_L6 x8_2 (ji47)).length : Int)) = true := decide_eq_true c51
                            clear c51
                            obtain ⟨y154, hy154⟩ : ∃ y_ : List Bool, y_ = (x10_4.set (x11_3 : Int).toNat (rdOf false (rd_L6 x8_2 (ji47)) ((rd_T98 (rd_L5 x6_1 x11_3) x12_4).f0))) := ⟨_, rfl⟩
                            replace H : (spec_l4Measured.l3 k4 a1 t119 x6_1 x8_2 x9_2 y154 x11_3 (wrap64 (x12_4 + 1))) = some r := by first | (rw [hy154]; with_reducible exact H) | (have H2_ := (Option.bind_some _ _).symm.trans H; rw [hy154]; with_reducible exact H2_) | (have H2_ := (Option.bind_some _ _).symm.trans H; with_reducible exact H2_) | with_reducible exact H | (rw [hy154]; exact H) | exact H
                            have Ny154 := Aside0.mk hy154
                            clear hy154
                            have H' := Aside0.mk H
                            clear H
                            obtain ⟨Ao53, co53, eo53⟩ := Kd.N_slice HO_6.out
                            subst eo53
                            have p145 : 0 ≤ (x11_3 : Int) := of_decide_eq_true (by first | (with_reducible assumption) | assumption)
                            have q145 : x11_3 < (x6_1.length : Int) := of_decide_eq_true (by first | (with_reducible assumption) | assumption)
                            obtain ⟨ad145, A145_0, c145_0, e145, hx145_0, hl145_0, hi145_0⟩ := at_L5 (Kd.N_reads' HO_6.out).2.2 x11_3 p145 q145
                            cases e145
                            obtain ⟨ce145, hce145, hMe145, hcc145⟩ := Kd.N_get HO_6.out [] x11_3 p145 (by first | exact q145 | exact of_decide_eq_true (by first | (with_reducible assumption) | assumption) | (have e_ := (Kd.N_reads' HO_6.out).1; omega))
                            obtain ⟨ua145_0, uc145_0, rfl, ul145_0, ge145_0⟩ := Kd.FK_slice_open hMe145
                            have hv145_0 := hcc145 0 _ rfl
                            rw [Nat.add_zero, show ((Kd.slice 98 k98)).sz = 1 from rfl, Nat.mul_one] at hv145_0
                            replace hv145_0 := Option.some.inj (hv145_0.symm.trans hx145_0)
                            injection hv145_0 with hva_ hvn_ hvc_
                            rw [hva_] at ge145_0
                            rw [hvc_] at ul145_0
                            have HL145_0 := Aside0.mk (show Kd.V k98 98 _ w.heap.size _ _ (rd_L5 x6_1 x11_3) from Kd.V_mk ul145_0 ge145_0)
                            clear hva_ hvn_ hvc_ ge145_0 ul145_0
                            clear hcc145 hce145
                            have HR145_0 := Aside0.mk hi145_0
                            have HC145_0 := Aside0.mk hl145_0
                            clear hi145_0 hl145_0
                            replace p145 := eq_true p145
                            replace q145 := eq_true q145
                            obtain ⟨Ao54, co54, eo54⟩ := Kd.R_slice HO_10.out
                            subst eo54
                            have p146 : 0 ≤ (x11_3 : Int) := of_decide_eq_true (by first | (with_reducible assumption) | assumption)
                            have q146 : x11_3 < (x10_4.length : Int) := of_decide_eq_true (by first | (with_reducible assumption) | assumption)
                            obtain ⟨ad146, e146, hx146_0⟩ := Kd.at_bool (Kd.R_reads' HO_10.out).2.2 x11_3 p146 q146
                            (try rw [← Nbq35.out] at hx146_0)
                            cases e146
                            replace p146 := eq_true p146
                            replace q146 := eq_true q146
                            have p147 : 0 ≤ (x11_3 : Int) := of_decide_eq_true (by first | (with_reducible assumption) | assumption)
                            have q147 : x11_3 < (x6_1.length : Int) := of_decide_eq_true (by first | (with_reducible assumption) | assumption)
                            obtain ⟨ad147, A147_0, c147_0, e147, hx147_0, hl147_0, hi147_0⟩ := at_L5 (Kd.N_reads' HO_6.out).2.2 x11_3 p147 q147
                            obtain rfl : ad145 = ad147 := (by injection e147)
                            obtain ⟨ce147, hce147, hMe147, hcc147⟩ := Kd.N_get HO_6.out [] x11_3 p147 (by first | exact q147 | exact of_decide_eq_true (by first | (with_reducible assumption) | assumption) | (have e_ := (Kd.N_reads' HO_6.out).1; omega))
                            obtain ⟨ua147_0, uc147_0, rfl, ul147_0, ge147_0⟩ := Kd.FK_slice_open hMe147
                            have hv147_0 := hcc147 0 _ rfl
                            rw [Nat.add_zero, show ((Kd.slice 98 k98)).sz = 1 from rfl, Nat.mul_one] at hv147_0
                            replace hv147_0 := Option.some.inj (hv147_0.symm.trans hx147_0)
                            injection hv147_0 with hva_ hvn_ hvc_
                            rw [hva_] at ge147_0
                            rw [hvc_] at ul147_0
                            have HL147_0 := Aside0.mk (show Kd.V k98 98 _ w.heap.size _ _ (rd_L5 x6_1 x11_3) from Kd.V_mk ul147_0 ge147_0)
                            clear hva_ hvn_ hvc_ ge147_0 ul147_0
                            clear hcc147 hce147
                            have HR147_0 := Aside0.mk hi147_0
                            have HC147_0 := Aside0.mk hl147_0
                            clear hi147_0 hl147_0
                            replace p147 := eq_true p147
                            replace q147 := eq_true q147
                            have ea_ := Option.some.inj (hx145_0.symm.trans hx147_0)
                            injection ea_ with ea_ en_ ec_
                            subst ea_
                            subst ec_
                            clear en_
                            have p148 : 0 ≤ (x12_4 : Int) := of_decide_eq_true (by first | (with_reducible assumption) | assumption)
                            have q148 : x12_4 < ((rd_L5 x6_1 x11_3).length : Int) := of_decide_eq_true (by first | (with_reducible assumption) | assumption)
                            obtain ⟨ad148, e148, hx148_0, hx148_1⟩ := at_T98 (by repeat (first | (with_reducible exact HR147_0.out) | (with_reducible refine Kd.C_alloc ?_ _) | (with_reducible refine Kd.C_drewN ?_ _) | (with_reducible refine Kd.C_drew ?_) | exact HR147_0.out)) x12_4 p148 q148
                            cases e148
                            replace p148 := eq_true p148
                            replace q148 := eq_true q148
                            try go_wp2
                            have n0_ := Aside0.mk (Kd.N_drew HO_6.out)
                            have n1_ := Aside0.mk (Kd.N_drew HO_8.out)
                            have n2_ := Aside0.mk (Kd.R_drew HO_10.out)
                            have n3_ := Aside0.mk (Kd.V_drew HL145_0.out)
                            have n4_ := Aside0.mk (Kd.V_drew HL147_0.out)
                            have n5_ := Aside0.mk (blk_drew BK118.out)
                            have n6_ := Aside0.mk (Kd.C_drew HR145_0.out)
                            have n7_ := Aside0.mk (Kd.C_drew HR147_0.out)
                            have n8_ := Aside0.mk (below_drew1 HB.out)
                            clear HO_6
                            clear HO_8
                            clear HO_10
                            clear HL145_0
                            clear HL147_0
                            clear BK118
                            clear HR145_0
                            clear HR147_0
                            clear HB
                            have HO_6 := n0_
                            have HO_8 := n1_
                            have HO_10 := n2_
                            have HL145_0 := n3_
                            have HL147_0 := n4_
                            have BK118 := n5_
                            have HR145_0 := n6_
                            have HR147_0 := n7_
                            have HB := n8_
                            clear n0_ n1_ n2_ n3_ n4_ n5_ n6_ n7_ n8_
                            obtain ⟨Ao56, co56, eo56⟩ := Kd.N_slice HO_8.out
                            (first | subst eo56 | (injection eo56 with f1_ f2_ f3_; have f4_ := f1_.symm; have f5_ := f3_.symm; clear f1_ f2_ f3_; subst f4_; subst f5_))
                            have p150 : 0 ≤ ((ji47) : Int) := of_decide_eq_true (by first | (with_reducible assumption) | assumption)
                            have q150 : (ji47) < (x8_2.length : Int) := of_decide_eq_true (by first | (with_reducible assumption) | assumption)
                            obtain ⟨ad150, A150_0, c150_0, e150, hx150_0, hl150_0, hi150_0⟩ := at_L6 (Kd.N_reads' HO_8.out).2.2 (ji47) p150 q150
                            cases e150
                            obtain ⟨ce150, hce150, hMe150, hcc150⟩ := Kd.N_get HO_8.out [] (ji47) p150 (by first | exact q150 | exact of_decide_eq_true (by first | (with_reducible assumption) | assumption) | (have e_ := (Kd.N_reads' HO_8.out).1; omega))
                            obtain ⟨ua150_0, uc150_0, rfl, ul150_0, ge150_0⟩ := Kd.FK_slice_open hMe150
                            have hv150_0 := hcc150 0 _ rfl
                            rw [Nat.add_zero, show ((Kd.slice 4 Kd.bool)).sz = 1 from rfl, Nat.mul_one] at hv150_0
                            replace hv150_0 := Option.some.inj (hv150_0.symm.trans hx150_0)
                            injection hv150_0 with hva_ hvn_ hvc_
                            rw [hva_] at ge150_0
                            rw [hvc_] at ul150_0
                            have HL150_0 := Aside0.mk (show Kd.V Kd.bool 4 _ w.heap.size _ _ (rd_L6 x8_2 (ji47)) from Kd.V_mk ul150_0 ge150_0)
                            clear hva_ hvn_ hvc_ ge150_0 ul150_0
                            clear hcc150 hce150
                            have HR150_0 := Aside0.mk hi150_0
                            have HC150_0 := Aside0.mk hl150_0
                            clear hi150_0 hl150_0
                            replace p150 := eq_true p150
                            replace q150 := eq_true q150
                            have p151 : 0 ≤ (x11_3 : Int) := of_decide_eq_true (by first | (with_reducible assumption) | assumption)
                            have q151 : x11_3 < (x6_1.length : Int) := of_decide_eq_true (by first | (with_reducible assumption) | assumption)
                            obtain ⟨ad151, A151_0, c151_0, e151, hx151_0, hl151_0, hi151_0⟩ := at_L5 (Kd.N_reads' HO_6.out).2.2 x11_3 p151 q151
                            obtain rfl : ad145 = ad151 := (by injection e151)
                            obtain ⟨ce151, hce151, hMe151, hcc151⟩ := Kd.N_get HO_6.out [] x11_3 p151 (by first | exact q151 | exact of_decide_eq_true (by first | (with_reducible assumption) | assumption) | (have e_ := (Kd.N_reads' HO_6.out).1; omega))
                            obtain ⟨ua151_0, uc151_0, rfl, ul151_0, ge151_0⟩ := Kd.FK_slice_open hMe151
                            have hv151_0 := hcc151 0 _ rfl
                            rw [Nat.add_zero, show ((Kd.slice 98 k98)).sz = 1 from rfl, Nat.mul_one] at hv151_0
                            replace hv151_0 := Option.some.inj (hv151_0.symm.trans hx151_0)
                            injection hv151_0 with hva_ hvn_ hvc_
                            rw [hva_] at ge151_0
                            rw [hvc_] at ul151_0
                            have HL151_0 := Aside0.mk (show Kd.V k98 98 _ w.heap.size _ _ (rd_L5 x6_1 x11_3) from Kd.V_mk ul151_0 ge151_0)
                            clear hva_ hvn_ hvc_ ge151_0 ul151_0
                            clear hcc151 hce151
                            have HR151_0 := Aside0.mk hi151_0
                            have HC151_0 := Aside0.mk hl151_0
                            clear hi151_0 hl151_0
                            replace p151 := eq_true p151
                            replace q151 := eq_true q151
                            have p152 : 0 ≤ (x12_4 : Int) := of_decide_eq_true (by first | (with_reducible assumption) | assumption)
                            have q152 : x12_4 < ((rd_L5 x6_1 x11_3).length : Int) := of_decide_eq_true (by first | (with_reducible assumption) | assumption)
                            obtain ⟨ad152, e152, hx152_0, hx152_1⟩ := at_T98 (by repeat (first | (with_reducible exact HR151_0.out) | (with_reducible refine Kd.C_alloc ?_ _) | (with_reducible refine Kd.C_drewN ?_ _) | (with_reducible refine Kd.C_drew ?_) | exact HR151_0.out)) x12_4 p152 q152
                            cases e152
                            replace p152 := eq_true p152
                            replace q152 := eq_true q152
                            have p153 : 0 ≤ (((rd_T98 (rd_L5 x6_1 x11_3) x12_4).f0) : Int) := of_decide_eq_true (by first | (with_reducible assumption) | assumption)
                            have q153 : ((rd_T98 (rd_L5 x6_1 x11_3) x12_4).f0) < ((rd_L6 x8_2 (ji47)).length : Int) := of_decide_eq_true (by first | (with_reducible assumption) | assumption)
                            obtain ⟨ad153, e153, hx153_0⟩ := Kd.at_bool (by repeat (first | (with_reducible exact HR150_0.out) | (with_reducible refine Kd.C_alloc ?_ _) | (with_reducible refine Kd.C_drewN ?_ _) | (with_reducible refine Kd.C_drew ?_) | exact HR150_0.out)) ((rd_T98 (rd_L5 x6_1 x11_3) x12_4).f0) p153 q153
                            (try rw [← Nbq35.out] at hx153_0)
                            cases e153
                            replace p153 := eq_true p153
                            replace q153 := eq_true q153
                            have p52 : 0 ≤ (x11_3 : Int) := of_decide_eq_true (by first | (with_reducible assumption) | assumption)
                            have q52 : (x11_3 : Int) < ((x10_4.length : Int) : Int) := of_decide_eq_true (by first | (with_reducible assumption) | assumption)
                            obtain ⟨go52, co52, eo52, gb52, gl52, cl52, HG52⟩ := Kd.R_form HO_10.out (by omega)
                            (first | cases eo52 | (injection eo52 with ea_ en_ ec_; (first | subst ea_ | (injection ea_ with ea_; subst ea_)); subst ec_; clear en_))
                            have GB52 := Aside0.mk gb52
                            have GG52 := Aside0.mk HG52
                            clear gb52 gl52 HG52
                            (first | simp only [add_plain] at hx146_0 | skip)
                            obtain ⟨hx52_0, hf52_0⟩ := Kd.R_celln false HO_10.out (x11_3 : Int) p52 q52
                            replace p52 := eq_true p52
                            replace q52 := eq_true q52
                            have HP57 := Kd.R_putn HO_10.out (x11_3 : Int) (rdOf false (rd_L6 x8_2 (ji47)) ((rd_T98 (rd_L5 x6_1 x11_3) x12_4).f0))
                            rw [← Ny154.out] at HP57
                            have HQ57 := Aside0.mk HP57
                            clear HP57
                            refine start_ (n := 30) (S := fun w' => w'.cell? (ad150.add ((ji47)).toNat) = some (.slice (some ad153) (rd_L6 x8_2 (ji47)).length c150_0) ∧ w'.cell? (ad145.add (x11_3).toNat) = some (.slice (some ad152) (rd_L5 x6_1 x11_3).length c151_0) ∧ w'.cell? (ad152.add ((x12_4).toNat * 2)) = some (.int .i64 ((rd_T98 (rd_L5 x6_1 x11_3) x12_4).f0)) ∧ w'.cell? ⟨(ad152.add ((x12_4).toNat * 2)).block, (ad152.add ((x12_4).toNat * 2)).off + 1, none⟩ = some (.int .i64 ((rd_T98 (rd_L5 x6_1 x11_3) x12_4).f1)) ∧ w'.cell? (ad153.add (((rd_T98 (rd_L5 x6_1 x11_3) x12_4).f0)).toNat) = some (.bool (rdOf false (rd_L6 x8_2 (ji47)) ((rd_T98 (rd_L5 x6_1 x11_3) x12_4).f0)))) (ds := [29]) #[false, false, false, false, false, false, false, false, false, false, false, false, false, false, false, false, false, false, false, false, false, false, false, false, false, false, false, false, false, false] (by kernel_rfl) rfl rfl ⟨hx150_0, hx151_0, hx152_0, hx152_1, hx153_0⟩ (fun hHeld => ?_); refine with_tabW spec_l4Measured.tab19 spec_l4Measured.bits19 (fun HT_ HW_ => ?_)
                            generalize wr.drew = w55 at HO_6 HO_8 HO_10 HL145_0 HL147_0 BK118 HR145_0 HR147_0 HB GG52 HL150_0 HL151_0 HQ57 HR150_0 HR151_0 hf52_0 hx146_0 hx150_0 hx151_0 hx152_0 hx152_1 hx153_0 hx52_0 hHeld ⊢
                            refine pure_ (i := 0) (N := some 69) (v := ?_) (a' := ?_) #[true, false, false, false, false, false, false, false, false, false, false, false, false, false, false, false, false, false, false, false, false, false, false, false, false, false, false, false, false, false] rfl rfl (any_of HT_.out (by kernel_rfl)) (fun _ _ _ h => h) (Or.inl ⟨by rfl, ?_⟩) ?_ ?_
                            rotate_left
                            ·intro w'
                             go_simp
                             with_reducible rfl
                            rotate_left
                            ·simp only [Act.put, List.setIfInBounds_toArray, List.set_cons_zero, List.set_cons_succ, i64_w, i32_w]
                             rfl
                            refine pure_ (i := 1) (N := some 70) (v := ?_) (a' := ?_) #[true, true, false, false, false, false, false, false, false, false, false, false, false, false, false, false, false, false, false, false, false, false, false, false, false, false, false, false, false, false] rfl rfl (any_of HT_.out (by kernel_rfl)) (fun _ _ _ h => h) (Or.inl ⟨by rfl, ?_⟩) ?_ ?_
                            rotate_left
                            ·intro w'
                             go_simp
                             with_reducible rfl
                            rotate_left
                            ·simp only [Act.put, List.setIfInBounds_toArray, List.set_cons_zero, List.set_cons_succ, i64_w, i32_w]
                             rfl
                            refine pure_ (i := 2) (N := some 71) (v := ?_) (a' := ?_) #[true, true, true, false, false, false, false, false, false, false, false, false, false, false, false, false, false, false, false, false, false, false, false, false, false, false, false, false, false, false] rfl rfl (any_of HT_.out (by kernel_rfl)) (fun _ _ _ h => h) (Or.inl ⟨by rfl, ?_⟩) ?_ ?_
                            rotate_left
                            ·intro w'
                             go_simp
                             with_reducible rfl
                            rotate_left
                            ·simp only [Act.put, List.setIfInBounds_toArray, List.set_cons_zero, List.set_cons_succ, i64_w, i32_w]
                             rfl
                            refine pure_ (i := 3) (N := some 72) (v := ?_) (a' := ?_) #[true, true, true, true, false, false, false, false, false, false, false, false, false, false, false, false, false, false, false, false, false, false, false, false, false, false, false, false, false, false] rfl rfl (any_of HT_.out (by kernel_rfl)) (fun _ _ _ h => h) (Or.inl ⟨by rfl, ?_⟩) ?_ ?_
                            rotate_left
                            ·intro w'
                             go_simp
                             with_reducible rfl
                            rotate_left
                            ·simp only [Act.put, List.setIfInBounds_toArray, List.set_cons_zero, List.set_cons_succ, i64_w, i32_w]
                             rfl
                            refine pure_ (i := 4) (N := some 73) (v := ?_) (a' := ?_) #[true, true, true, true, true, false, false, false, false, false, false, false, false, false, false, false, false, false, false, false, false, false, false, false, false, false, false, false, false, false] rfl rfl (any_of HT_.out (by kernel_rfl)) (fun _ _ _ h => h) (Or.inl ⟨by rfl, ?_⟩) ?_ ?_
                            rotate_left
                            ·intro w'
                             go_simp
                             with_reducible rfl
                            rotate_left
                            ·simp only [Act.put, List.setIfInBounds_toArray, List.set_cons_zero, List.set_cons_succ, i64_w, i32_w]
                             rfl
                            refine pure_ (i := 5) (N := some 74) (v := ?_) (a' := ?_) #[true, true, true, true, true, true, false, false, false, false, false, false, false, false, false, false, false, false, false, false, false, false, false, false, false, false, false, false, false, false] rfl rfl (any_of HT_.out (by kernel_rfl)) (fun _ _ _ h => h) (Or.inl ⟨by rfl, ?_⟩) ?_ ?_
                            rotate_left
                            ·intro w'
                             go_simp
                             with_reducible rfl
                            rotate_left
                            ·simp only [Act.put, List.setIfInBounds_toArray, List.set_cons_zero, List.set_cons_succ, i64_w, i32_w]
                             rfl
                            refine pure_ (i := 6) (N := some 75) (v := ?_) (a' := ?_) #[true, true, true, true, true, true, true, false, false, false, false, false, false, false, false, false, false, false, false, false, false, false, false, false, false, false, false, false, false, false] rfl rfl (any_of HT_.out (by kernel_rfl)) (fun _ _ _ h => h) (Or.inl ⟨by rfl, ?_⟩) ?_ ?_
                            rotate_left
                            ·intro w'
                             go_simp
                             with_reducible rfl
                            rotate_left
                            ·simp only [Act.put, List.setIfInBounds_toArray, List.set_cons_zero, List.set_cons_succ, i64_w, i32_w]
                             rfl
                            refine pure_ (i := 7) (N := some 76) (v := ?_) (a' := ?_) #[true, true, true, true, true, true, true, true, false, false, false, false, false, false, false, false, false, false, false, false, false, false, false, false, false, false, false, false, false, false] rfl rfl (any_of HT_.out (by kernel_rfl)) (fun _ _ _ h => h) (Or.inl ⟨by rfl, ?_⟩) ?_ ?_
                            rotate_left
                            ·intro w'
                             go_simp
                             with_reducible rfl
                            rotate_left
                            ·simp only [Act.put, List.setIfInBounds_toArray, List.set_cons_zero, List.set_cons_succ, i64_w, i32_w]
                             rfl
                            refine pure_ (i := 8) (N := some 77) (v := ?_) (a' := ?_) #[true, true, true, true, true, true, true, true, true, false, false, false, false, false, false, false, false, false, false, false, false, false, false, false, false, false, false, false, false, false] rfl rfl (any_of HT_.out (by kernel_rfl)) (fun _ _ _ h => h) (Or.inl ⟨by rfl, ?_⟩) ?_ ?_
                            rotate_left
                            ·intro w'
                             go_simp
                             with_reducible rfl
                            rotate_left
                            ·simp only [Act.put, List.setIfInBounds_toArray, List.set_cons_zero, List.set_cons_succ, i64_w, i32_w]
                             rfl
                            refine pure_ (i := 9) (N := some 78) (v := ?_) (a' := ?_) #[true, true, true, true, true, true, true, true, true, true, false, false, false, false, false, false, false, false, false, false, false, false, false, false, false, false, false, false, false, false] rfl rfl (any_of HT_.out (by kernel_rfl)) (fun _ _ _ h => h) (Or.inl ⟨by rfl, ?_⟩) ?_ ?_
                            rotate_left
                            ·intro w'
                             go_simp
                             with_reducible rfl
                            rotate_left
                            ·simp only [Act.put, List.setIfInBounds_toArray, List.set_cons_zero, List.set_cons_succ, i64_w, i32_w]
                             rfl
                            refine pure_ (i := 10) (N := some 79) (v := ?_) (a' := ?_) #[true, true, true, true, true, true, true, true, true, true, true, false, false, false, false, false, false, false, false, false, false, false, false, false, false, false, false, false, false, false] rfl rfl (any_of HT_.out (by kernel_rfl)) (fun _ _ _ h => h) (Or.inl ⟨by rfl, ?_⟩) ?_ ?_
                            rotate_left
                            ·intro w'
                             go_simp
                             with_reducible rfl
                            rotate_left
                            ·simp only [Act.put, List.setIfInBounds_toArray, List.set_cons_zero, List.set_cons_succ, i64_w, i32_w]
                             rfl
                            refine pure_ (i := 11) (N := some 80) (v := ?_) (a' := ?_) #[true, true, true, true, true, true, true, true, true, true, true, true, false, false, false, false, false, false, false, false, false, false, false, false, false, false, false, false, false, false] rfl rfl (any_of HT_.out (by kernel_rfl)) (fun _ _ _ h => h) (Or.inl ⟨by rfl, ?_⟩) ?_ ?_
                            rotate_left
                            ·intro w'
                             go_simp
                             with_reducible rfl
                            rotate_left
                            ·simp only [Act.put, List.setIfInBounds_toArray, List.set_cons_zero, List.set_cons_succ, i64_w, i32_w]
                             rfl
                            refine pure_ (i := 12) (N := some 81) (v := ?_) (a' := ?_) #[true, true, true, true, true, true, true, true, true, true, true, true, true, false, false, false, false, false, false, false, false, false, false, false, false, false, false, false, false, false] rfl rfl (any_of HT_.out (by kernel_rfl)) (fun _ _ _ h => h) (Or.inl ⟨by rfl, ?_⟩) ?_ ?_
                            rotate_left
                            ·intro w'
                             go_simp
                             with_reducible rfl
                            rotate_left
                            ·simp only [Act.put, List.setIfInBounds_toArray, List.set_cons_zero, List.set_cons_succ, i64_w, i32_w]
                             rfl
                            refine pure_ (i := 13) (N := some 82) (v := ?_) (a' := ?_) #[true, true, true, true, true, true, true, true, true, true, true, true, true, true, false, false, false, false, false, false, false, false, false, false, false, false, false, false, false, false] rfl rfl (any_of HT_.out (by kernel_rfl)) (fun _ _ _ h => h) (Or.inl ⟨by rfl, ?_⟩) ?_ ?_
                            rotate_left
                            ·intro w'
                             go_simp
                             with_reducible rfl
                            rotate_left
                            ·simp only [Act.put, List.setIfInBounds_toArray, List.set_cons_zero, List.set_cons_succ, i64_w, i32_w]
                             rfl
                            refine pure_ (i := 14) (N := some 83) (v := ?_) (a' := ?_) #[true, true, true, true, true, true, true, true, true, true, true, true, true, true, true, false, false, false, false, false, false, false, false, false, false, false, false, false, false, false] rfl rfl (any_of HT_.out (by kernel_rfl)) (fun _ _ _ h => h) (Or.inl ⟨by rfl, ?_⟩) ?_ ?_
                            rotate_left
                            ·intro w'
                             go_simp
                             with_reducible rfl
                            rotate_left
                            ·simp only [Act.put, List.setIfInBounds_toArray, List.set_cons_zero, List.set_cons_succ, i64_w, i32_w]
                             rfl
                            refine pure_ (i := 16) (N := some 85) (v := ?_) (a' := ?_) #[true, true, true, true, true, true, true, true, true, true, true, true, true, true, true, false, true, false, false, false, false, false, false, false, false, false, false, false, false, false] rfl rfl (any_of HT_.out (by kernel_rfl)) (fun _ _ _ h => h) (Or.inl ⟨by rfl, ?_⟩) ?_ ?_
                            rotate_left
                            ·intro w'
                             go_simp
                             with_reducible rfl
                            rotate_left
                            ·simp only [Act.put, List.setIfInBounds_toArray, List.set_cons_zero, List.set_cons_succ, i64_w, i32_w]
                             rfl
                            refine pure_ (i := 17) (N := some 86) (v := ?_) (a' := ?_) #[true, true, true, true, true, true, true, true, true, true, true, true, true, true, true, false, true, true, false, false, false, false, false, false, false, false, false, false, false, false] rfl rfl (any_of HT_.out (by kernel_rfl)) (fun _ _ _ h => h) (Or.inl ⟨by rfl, ?_⟩) ?_ ?_
                            rotate_left
                            ·intro w'
                             go_simp
                             with_reducible rfl
                            rotate_left
                            ·simp only [Act.put, List.setIfInBounds_toArray, List.set_cons_zero, List.set_cons_succ, i64_w, i32_w]
                             rfl
                            refine pure_ (i := 18) (N := some 87) (v := ?_) (a' := ?_) #[true, true, true, true, true, true, true, true, true, true, true, true, true, true, true, false, true, true, true, false, false, false, false, false, false, false, false, false, false, false] rfl rfl (any_of HT_.out (by kernel_rfl)) (fun _ _ _ h => h) (Or.inl ⟨by rfl, ?_⟩) ?_ ?_
                            rotate_left
                            ·intro w'
                             go_simp
                             with_reducible rfl
                            rotate_left
                            ·simp only [Act.put, List.setIfInBounds_toArray, List.set_cons_zero, List.set_cons_succ, i64_w, i32_w]
                             rfl
                            refine pure_ (i := 20) (N := some 89) (v := ?_) (a' := ?_) #[true, true, true, true, true, true, true, true, true, true, true, true, true, true, true, false, true, true, true, false, true, false, false, false, false, false, false, false, false, false] rfl rfl (any_of HT_.out (by kernel_rfl)) (fun _ _ _ h => h) (Or.inl ⟨by rfl, ?_⟩) ?_ ?_
                            rotate_left
                            ·intro w'
                             go_simp
                             with_reducible rfl
                            rotate_left
                            ·simp only [Act.put, List.setIfInBounds_toArray, List.set_cons_zero, List.set_cons_succ, i64_w, i32_w]
                             rfl
                            refine take_ (i := 15) (N := some 84) (v := ?_) (a' := ?_) #[true, true, true, true, true, true, true, true, true, true, true, true, true, true, true, true, true, true, true, false, true, false, false, false, false, false, false, false, false, false] rfl rfl (take_ofW HT_.out HW_.out (by kernel_rfl)) (fun _ _ _ h => h) (Or.inl ⟨by rfl, ?_⟩) hHeld ?_ ?_
                            rotate_left
                            ·rintro w' ⟨s0, s1, s2, s3, s4⟩
                             go_simp
                             with_reducible rfl
                            rotate_left
                            ·simp only [Act.put, List.setIfInBounds_toArray, List.set_cons_zero, List.set_cons_succ, i64_w, i32_w]
                             rfl
                            refine take_ (i := 19) (N := some 88) (v := ?_) (a' := ?_) #[true, true, true, true, true, true, true, true, true, true, true, true, true, true, true, true, true, true, true, true, true, false, false, false, false, false, false, false, false, false] rfl rfl (take_ofW HT_.out HW_.out (by kernel_rfl)) (fun _ _ _ h => h) (Or.inl ⟨by rfl, ?_⟩) hHeld ?_ ?_
                            rotate_left
                            ·rintro w' ⟨s0, s1, s2, s3, s4⟩
                             go_simp
                             with_reducible rfl
                            rotate_left
                            ·simp only [Act.put, List.setIfInBounds_toArray, List.set_cons_zero, List.set_cons_succ, i64_w, i32_w]
                             rfl
                            refine pure_ (i := 21) (N := some 90) (v := ?_) (a' := ?_) #[true, true, true, true, true, true, true, true, true, true, true, true, true, true, true, true, true, true, true, true, true, true, false, false, false, false, false, false, false, false] rfl rfl (any_of HT_.out (by kernel_rfl)) (fun _ _ _ h => h) (Or.inl ⟨by rfl, ?_⟩) ?_ ?_
                            rotate_left
                            ·intro w'
                             go_simp
                             with_reducible rfl
                            rotate_left
                            ·simp only [Act.put, List.setIfInBounds_toArray, List.set_cons_zero, List.set_cons_succ, i64_w, i32_w]
                             rfl
                            refine pure_ (i := 22) (N := some 91) (v := ?_) (a' := ?_) #[true, true, true, true, true, true, true, true, true, true, true, true, true, true, true, true, true, true, true, true, true, true, true, false, false, false, false, false, false, false] rfl rfl (any_of HT_.out (by kernel_rfl)) (fun _ _ _ h => h) (Or.inl ⟨by rfl, ?_⟩) ?_ ?_
                            rotate_left
                            ·intro w'
                             go_simp
                             with_reducible rfl
                            rotate_left
                            ·simp only [Act.put, List.setIfInBounds_toArray, List.set_cons_zero, List.set_cons_succ, i64_w, i32_w]
                             rfl
                            refine take_ (i := 23) (N := some 92) (v := ?_) (a' := ?_) #[true, true, true, true, true, true, true, true, true, true, true, true, true, true, true, true, true, true, true, true, true, true, true, true, false, false, false, false, false, false] rfl rfl (take_ofW HT_.out HW_.out (by kernel_rfl)) (fun _ _ _ h => h) (Or.inl ⟨by rfl, ?_⟩) hHeld ?_ ?_
                            rotate_left
                            ·rintro w' ⟨s0, s1, s2, s3, s4⟩
                             go_simp
                             with_reducible rfl
                            rotate_left
                            ·simp only [Act.put, List.setIfInBounds_toArray, List.set_cons_zero, List.set_cons_succ, i64_w, i32_w]
                             rfl
                            refine pure_ (i := 24) (N := some 93) (v := ?_) (a' := ?_) #[true, true, true, true, true, true, true, true, true, true, true, true, true, true, true, true, true, true, true, true, true, true, true, true, true, false, false, false, false, false] rfl rfl (any_of HT_.out (by kernel_rfl)) (fun _ _ _ h => h) (Or.inl ⟨by rfl, ?_⟩) ?_ ?_
                            rotate_left
                            ·intro w'
                             go_simp
                             with_reducible rfl
                            rotate_left
                            ·simp only [Act.put, List.setIfInBounds_toArray, List.set_cons_zero, List.set_cons_succ, i64_w, i32_w]
                             rfl
                            refine take_ (i := 25) (N := some 94) (v := ?_) (a' := ?_) #[true, true, true, true, true, true, true, true, true, true, true, true, true, true, true, true, true, true, true, true, true, true, true, true, true, true, false, false, false, false] rfl rfl (take_ofW HT_.out HW_.out (by kernel_rfl)) (fun _ _ _ h => h) (Or.inl ⟨by rfl, ?_⟩) hHeld ?_ ?_
                            rotate_left
                            ·rintro w' ⟨s0, s1, s2, s3, s4⟩
                             go_simp
                             with_reducible rfl
                            rotate_left
                            ·simp only [Act.put, List.setIfInBounds_toArray, List.set_cons_zero, List.set_cons_succ, i64_w, i32_w]
                             rfl
                            refine pure_ (i := 26) (N := some 95) (v := ?_) (a' := ?_) #[true, true, true, true, true, true, true, true, true, true, true, true, true, true, true, true, true, true, true, true, true, true, true, true, true, true, true, false, false, false] rfl rfl (any_of HT_.out (by kernel_rfl)) (fun _ _ _ h => h) (Or.inl ⟨by rfl, ?_⟩) ?_ ?_
                            rotate_left
                            ·intro w'
                             go_simp
                             with_reducible rfl
                            rotate_left
                            ·simp only [Act.put, List.setIfInBounds_toArray, List.set_cons_zero, List.set_cons_succ, i64_w, i32_w]
                             rfl
                            refine pure_ (i := 27) (N := some 96) (v := ?_) (a' := ?_) #[true, true, true, true, true, true, true, true, true, true, true, true, true, true, true, true, true, true, true, true, true, true, true, true, true, true, true, true, false, false] rfl rfl (any_of HT_.out (by kernel_rfl)) (fun _ _ _ h => h) (Or.inl ⟨by rfl, ?_⟩) ?_ ?_
                            rotate_left
                            ·intro w'
                             go_simp
                             with_reducible rfl
                            rotate_left
                            ·simp only [Act.put, List.setIfInBounds_toArray, List.set_cons_zero, List.set_cons_succ, i64_w, i32_w]
                             rfl
                            refine pure_ (i := 28) (N := some 97) (v := ?_) (a' := ?_) #[true, true, true, true, true, true, true, true, true, true, true, true, true, true, true, true, true, true, true, true, true, true, true, true, true, true, true, true, true, false] rfl rfl (any_of HT_.out (by kernel_rfl)) (fun _ _ _ h => h) (Or.inl ⟨by rfl, ?_⟩) ?_ ?_
                            rotate_left
                            ·intro w'
                             go_simp
                             with_reducible rfl
                            rotate_left
                            ·simp only [Act.put, List.setIfInBounds_toArray, List.set_cons_zero, List.set_cons_succ, i64_w, i32_w]
                             rfl
                            refine last_ (i := 29) (N := none) #[true, true, true, true, true, true, true, true, true, true, true, true, true, true, true, true, true, true, true, true, true, true, true, true, true, true, true, true, true, true] rfl rfl (one_of HT_.out (by kernel_rfl)) (by decide) (fun K hK => ?_)
                            refine skip_ (w1 := ?_) (by rfl) rfl ?_ ?_
                            rotate_left
                            ·go_simp
                             rfl
                            refine hK.out _ _ ?_
                            clear hK K
                            refine done_ (done_of HT_.out (by kernel_rfl)) ?_
                            try go_wp2
                            go_roundg k4
                            case measure => have := HK1.out; have := HK2.out; have := HK3.out; have := HK4.out; omega
                            case rel => exact ⟨(y154), (wrap64 (x12_4 + 1)), (by first | rfl | (simp; done) | (simp [*]; done)), H', ⟨by have := HK1.out; have := HK2.out; have := HK3.out; have := HK4.out; omega⟩, ⟨by (with_reducible repeat (first | apply Kd.N_alloc | apply Kd.N_drewN | apply Kd.N_drew)); exact Kd.N_mono (Kd.N_far (p := ⟨go52, (x11_3 : Int).toNat, none⟩) (Kd.N_mono HO_6.out (fun k_ hk => (⟨hk, fun e_ => hk.2.2.1 (by rw [e_]; rfl)⟩ : _ ∧ k_ ≠ go52))) (fun _ hk => hk.2) (.bool (rdOf false (rd_L6 x8_2 (ji47)) ((rd_T98 (rd_L5 x6_1 x11_3) x12_4).f0)))) (fun _ hk => ⟨hk.1.1, ⟨hk.1.2.1, ⟨hk.1.2.2.1, hk.1.2.2.2⟩⟩⟩)⟩, ⟨by (with_reducible repeat (first | apply Kd.N_alloc | apply Kd.N_drewN | apply Kd.N_drew)); exact Kd.N_mono (Kd.N_far (p := ⟨go52, (x11_3 : Int).toNat, none⟩) (Kd.N_mono HO_8.out (fun k_ hk => (⟨hk, fun e_ => hk.2.2.1 (by rw [e_]; rfl)⟩ : _ ∧ k_ ≠ go52))) (fun _ hk => hk.2) (.bool (rdOf false (rd_L6 x8_2 (ji47)) ((rd_T98 (rd_L5 x6_1 x11_3) x12_4).f0)))) (fun _ hk => ⟨hk.1.1, ⟨hk.1.2.1, ⟨hk.1.2.2.1, hk.1.2.2.2⟩⟩⟩)⟩, ⟨by (with_reducible repeat (first | apply Kd.R_alloc | apply Kd.R_drewN | apply Kd.R_drew)); exact HQ57.out⟩, ⟨by (with_reducible repeat (first | refine blk_drewN ?_ _ | refine blk_drew ?_ | refine blk_alloc ?_ _)); refine blk_far ?_ (by have h_ := Kd.R_ne HO_10.out BK118.out (by decide); intro e_; exact h_ (by rw [e_]; rfl)) _; (with_reducible repeat (first | refine blk_drewN ?_ _ | refine blk_drew ?_ | refine blk_alloc ?_ _)); exact BK118.out⟩, ⟨by repeat (first | (with_reducible first | exact HB.out | apply below_alloc | apply pw_below_drewN | apply below_drew1 | refine below_set ?_ GB52.out | refine below_set ?_ GE118.out) | exact HB.out)⟩⟩
                           ·rw [if_neg c51] at H
                            exact absurd H (by simp)
                          ·rw [if_neg c50] at H
                           exact absurd H (by simp)
                         ·rw [if_neg c49] at H
                          exact absurd H (by simp)
                        ·rw [if_neg c48] at H
                         exact absurd H (by simp)
                       ·rw [if_neg c46] at H
                        have c46b0 : decide (((rd_T98 (rd_L5 x6_1 x11_3) x12_4).f1) < x9_2) = false := decide_eq_false c46
                        clear c46
                        obtain ⟨y155, hy155⟩ : ∃ y_ : List Bool, y_ = (x10_4.set (x11_3 : Int).toNat false) := ⟨_, rfl⟩
                        replace H : (spec_l4Measured.l3 k4 a1 t119 x6_1 x8_2 x9_2 y155 x11_3 (wrap64 (x12_4 + 1))) = some r := by first | (rw [hy155]; with_reducible exact H) | (have H2_ := (Option.bind_some _ _).symm.trans H; rw [hy155]; with_reducible exact H2_) | (have H2_ := (Option.bind_some _ _).symm.trans H; with_reducible exact H2_) | with_reducible exact H | (rw [hy155]; exact H) | exact H
                        have Ny155 := Aside0.mk hy155
                        clear hy155
                        have H' := Aside0.mk H
                        clear H
                        obtain ⟨Ao59, co59, eo59⟩ := Kd.N_slice HO_6.out
                        subst eo59
                        have p145 : 0 ≤ (x11_3 : Int) := of_decide_eq_true (by first | (with_reducible assumption) | assumption)
                        have q145 : x11_3 < (x6_1.length : Int) := of_decide_eq_true (by first | (with_reducible assumption) | assumption)
                        obtain ⟨ad145, A145_0, c145_0, e145, hx145_0, hl145_0, hi145_0⟩ := at_L5 (Kd.N_reads' HO_6.out).2.2 x11_3 p145 q145
                        cases e145
                        obtain ⟨ce145, hce145, hMe145, hcc145⟩ := Kd.N_get HO_6.out [] x11_3 p145 (by first | exact q145 | exact of_decide_eq_true (by first | (with_reducible assumption) | assumption) | (have e_ := (Kd.N_reads' HO_6.out).1; omega))
                        obtain ⟨ua145_0, uc145_0, rfl, ul145_0, ge145_0⟩ := Kd.FK_slice_open hMe145
                        have hv145_0 := hcc145 0 _ rfl
                        rw [Nat.add_zero, show ((Kd.slice 98 k98)).sz = 1 from rfl, Nat.mul_one] at hv145_0
                        replace hv145_0 := Option.some.inj (hv145_0.symm.trans hx145_0)
                        injection hv145_0 with hva_ hvn_ hvc_
                        rw [hva_] at ge145_0
                        rw [hvc_] at ul145_0
                        have HL145_0 := Aside0.mk (show Kd.V k98 98 _ w.heap.size _ _ (rd_L5 x6_1 x11_3) from Kd.V_mk ul145_0 ge145_0)
                        clear hva_ hvn_ hvc_ ge145_0 ul145_0
                        clear hcc145 hce145
                        have HR145_0 := Aside0.mk hi145_0
                        have HC145_0 := Aside0.mk hl145_0
                        clear hi145_0 hl145_0
                        replace p145 := eq_true p145
                        replace q145 := eq_true q145
                        obtain ⟨Ao60, co60, eo60⟩ := Kd.R_slice HO_10.out
                        subst eo60
                        have p146 : 0 ≤ (x11_3 : Int) := of_decide_eq_true (by first | (with_reducible assumption) | assumption)
                        have q146 : x11_3 < (x10_4.length : Int) := of_decide_eq_true (by first | (with_reducible assumption) | assumption)
                        obtain ⟨ad146, e146, hx146_0⟩ := Kd.at_bool (Kd.R_reads' HO_10.out).2.2 x11_3 p146 q146
                        (try rw [← Nbq35.out] at hx146_0)
                        cases e146
                        replace p146 := eq_true p146
                        replace q146 := eq_true q146
                        have p147 : 0 ≤ (x11_3 : Int) := of_decide_eq_true (by first | (with_reducible assumption) | assumption)
                        have q147 : x11_3 < (x6_1.length : Int) := of_decide_eq_true (by first | (with_reducible assumption) | assumption)
                        obtain ⟨ad147, A147_0, c147_0, e147, hx147_0, hl147_0, hi147_0⟩ := at_L5 (Kd.N_reads' HO_6.out).2.2 x11_3 p147 q147
                        obtain rfl : ad145 = ad147 := (by injection e147)
                        obtain ⟨ce147, hce147, hMe147, hcc147⟩ := Kd.N_get HO_6.out [] x11_3 p147 (by first | exact q147 | exact of_decide_eq_true (by first | (with_reducible assumption) | assumption) | (have e_ := (Kd.N_reads' HO_6.out).1; omega))
                        obtain ⟨ua147_0, uc147_0, rfl, ul147_0, ge147_0⟩ := Kd.FK_slice_open hMe147
                        have hv147_0 := hcc147 0 _ rfl
                        rw [Nat.add_zero, show ((Kd.slice 98 k98)).sz = 1 from rfl, Nat.mul_one] at hv147_0
                        replace hv147_0 := Option.some.inj (hv147_0.symm.trans hx147_0)
                        injection hv147_0 with hva_ hvn_ hvc_
                        rw [hva_] at ge147_0
                        rw [hvc_] at ul147_0
                        have HL147_0 := Aside0.mk (show Kd.V k98 98 _ w.heap.size _ _ (rd_L5 x6_1 x11_3) from Kd.V_mk ul147_0 ge147_0)
                        clear hva_ hvn_ hvc_ ge147_0 ul147_0
                        clear hcc147 hce147
                        have HR147_0 := Aside0.mk hi147_0
                        have HC147_0 := Aside0.mk hl147_0
                        clear hi147_0 hl147_0
                        replace p147 := eq_true p147
                        replace q147 := eq_true q147
                        have ea_ := Option.some.inj (hx145_0.symm.trans hx147_0)
                        injection ea_ with ea_ en_ ec_
                        subst ea_
                        subst ec_
                        clear en_
                        have p148 : 0 ≤ (x12_4 : Int) := of_decide_eq_true (by first | (with_reducible assumption) | assumption)
                        have q148 : x12_4 < ((rd_L5 x6_1 x11_3).length : Int) := of_decide_eq_true (by first | (with_reducible assumption) | assumption)
                        obtain ⟨ad148, e148, hx148_0, hx148_1⟩ := at_T98 (by repeat (first | (with_reducible exact HR147_0.out) | (with_reducible refine Kd.C_alloc ?_ _) | (with_reducible refine Kd.C_drewN ?_ _) | (with_reducible refine Kd.C_drew ?_) | exact HR147_0.out)) x12_4 p148 q148
                        cases e148
                        replace p148 := eq_true p148
                        replace q148 := eq_true q148
                        try go_wp2
                        have n0_ := Aside0.mk (Kd.N_drew HO_6.out)
                        have n1_ := Aside0.mk (Kd.N_drew HO_8.out)
                        have n2_ := Aside0.mk (Kd.R_drew HO_10.out)
                        have n3_ := Aside0.mk (Kd.V_drew HL145_0.out)
                        have n4_ := Aside0.mk (Kd.V_drew HL147_0.out)
                        have n5_ := Aside0.mk (blk_drew BK118.out)
                        have n6_ := Aside0.mk (Kd.C_drew HR145_0.out)
                        have n7_ := Aside0.mk (Kd.C_drew HR147_0.out)
                        have n8_ := Aside0.mk (below_drew1 HB.out)
                        clear HO_6
                        clear HO_8
                        clear HO_10
                        clear HL145_0
                        clear HL147_0
                        clear BK118
                        clear HR145_0
                        clear HR147_0
                        clear HB
                        have HO_6 := n0_
                        have HO_8 := n1_
                        have HO_10 := n2_
                        have HL145_0 := n3_
                        have HL147_0 := n4_
                        have BK118 := n5_
                        have HR145_0 := n6_
                        have HR147_0 := n7_
                        have HB := n8_
                        clear n0_ n1_ n2_ n3_ n4_ n5_ n6_ n7_ n8_
                        have p58 : 0 ≤ (x11_3 : Int) := of_decide_eq_true (by first | (with_reducible assumption) | assumption)
                        have q58 : (x11_3 : Int) < ((x10_4.length : Int) : Int) := of_decide_eq_true (by first | (with_reducible assumption) | assumption)
                        obtain ⟨go58, co58, eo58, gb58, gl58, cl58, HG58⟩ := Kd.R_form HO_10.out (by omega)
                        (first | cases eo58 | (injection eo58 with ea_ en_ ec_; (first | subst ea_ | (injection ea_ with ea_; subst ea_)); subst ec_; clear en_))
                        have GB58 := Aside0.mk gb58
                        have GG58 := Aside0.mk HG58
                        clear gb58 gl58 HG58
                        (first | simp only [add_plain] at hx146_0 | skip)
                        obtain ⟨hx58_0, hf58_0⟩ := Kd.R_celln false HO_10.out (x11_3 : Int) p58 q58
                        replace p58 := eq_true p58
                        replace q58 := eq_true q58
                        have HP62 := Kd.R_putn HO_10.out (x11_3 : Int) false
                        rw [← Ny155.out] at HP62
                        have HQ62 := Aside0.mk HP62
                        clear HP62
                        refine start_ (n := 30) (S := fun w' => True) (ds := [29]) #[false, false, false, false, false, false, false, false, false, false, false, false, false, false, false, false, false, false, false, false, false, false, false, false, false, false, false, false, false, false] (by kernel_rfl) rfl rfl trivial (fun hHeld => ?_); refine with_tabW spec_l4Measured.tab19 spec_l4Measured.bits19 (fun HT_ HW_ => ?_)
                        generalize wr.drew = w61 at HO_6 HO_8 HO_10 HL145_0 HL147_0 BK118 HR145_0 HR147_0 HB GG58 HQ62 hf58_0 hx146_0 hx58_0 hHeld ⊢
                        refine pure_ (i := 0) (N := some 69) (v := ?_) (a' := ?_) #[true, false, false, false, false, false, false, false, false, false, false, false, false, false, false, false, false, false, false, false, false, false, false, false, false, false, false, false, false, false] rfl rfl (any_of HT_.out (by kernel_rfl)) (fun _ _ _ h => h) (Or.inl ⟨by rfl, ?_⟩) ?_ ?_
                        rotate_left
                        ·intro w'
                         go_simp
                         with_reducible rfl
                        rotate_left
                        ·simp only [Act.put, List.setIfInBounds_toArray, List.set_cons_zero, List.set_cons_succ, i64_w, i32_w]
                         rfl
                        refine pure_ (i := 1) (N := some 70) (v := ?_) (a' := ?_) #[true, true, false, false, false, false, false, false, false, false, false, false, false, false, false, false, false, false, false, false, false, false, false, false, false, false, false, false, false, false] rfl rfl (any_of HT_.out (by kernel_rfl)) (fun _ _ _ h => h) (Or.inl ⟨by rfl, ?_⟩) ?_ ?_
                        rotate_left
                        ·intro w'
                         go_simp
                         with_reducible rfl
                        rotate_left
                        ·simp only [Act.put, List.setIfInBounds_toArray, List.set_cons_zero, List.set_cons_succ, i64_w, i32_w]
                         rfl
                        refine pure_ (i := 2) (N := some 71) (v := ?_) (a' := ?_) #[true, true, true, false, false, false, false, false, false, false, false, false, false, false, false, false, false, false, false, false, false, false, false, false, false, false, false, false, false, false] rfl rfl (any_of HT_.out (by kernel_rfl)) (fun _ _ _ h => h) (Or.inl ⟨by rfl, ?_⟩) ?_ ?_
                        rotate_left
                        ·intro w'
                         go_simp
                         with_reducible rfl
                        rotate_left
                        ·simp only [Act.put, List.setIfInBounds_toArray, List.set_cons_zero, List.set_cons_succ, i64_w, i32_w]
                         rfl
                        refine pure_ (i := 3) (N := some 72) (v := ?_) (a' := ?_) #[true, true, true, true, false, false, false, false, false, false, false, false, false, false, false, false, false, false, false, false, false, false, false, false, false, false, false, false, false, false] rfl rfl (any_of HT_.out (by kernel_rfl)) (fun _ _ _ h => h) (Or.inl ⟨by rfl, ?_⟩) ?_ ?_
                        rotate_left
                        ·intro w'
                         go_simp
                         with_reducible rfl
                        rotate_left
                        ·simp only [Act.put, List.setIfInBounds_toArray, List.set_cons_zero, List.set_cons_succ, i64_w, i32_w]
                         rfl
                        refine pure_ (i := 4) (N := some 73) (v := ?_) (a' := ?_) #[true, true, true, true, true, false, false, false, false, false, false, false, false, false, false, false, false, false, false, false, false, false, false, false, false, false, false, false, false, false] rfl rfl (any_of HT_.out (by kernel_rfl)) (fun _ _ _ h => h) (Or.inl ⟨by rfl, ?_⟩) ?_ ?_
                        rotate_left
                        ·intro w'
                         go_simp
                         with_reducible rfl
                        rotate_left
                        ·simp only [Act.put, List.setIfInBounds_toArray, List.set_cons_zero, List.set_cons_succ, i64_w, i32_w]
                         rfl
                        refine pure_ (i := 5) (N := some 74) (v := ?_) (a' := ?_) #[true, true, true, true, true, true, false, false, false, false, false, false, false, false, false, false, false, false, false, false, false, false, false, false, false, false, false, false, false, false] rfl rfl (any_of HT_.out (by kernel_rfl)) (fun _ _ _ h => h) (Or.inl ⟨by rfl, ?_⟩) ?_ ?_
                        rotate_left
                        ·intro w'
                         go_simp
                         with_reducible rfl
                        rotate_left
                        ·simp only [Act.put, List.setIfInBounds_toArray, List.set_cons_zero, List.set_cons_succ, i64_w, i32_w]
                         rfl
                        refine pure_ (i := 6) (N := some 75) (v := ?_) (a' := ?_) #[true, true, true, true, true, true, true, false, false, false, false, false, false, false, false, false, false, false, false, false, false, false, false, false, false, false, false, false, false, false] rfl rfl (any_of HT_.out (by kernel_rfl)) (fun _ _ _ h => h) (Or.inl ⟨by rfl, ?_⟩) ?_ ?_
                        rotate_left
                        ·intro w'
                         go_simp
                         with_reducible rfl
                        rotate_left
                        ·simp only [Act.put, List.setIfInBounds_toArray, List.set_cons_zero, List.set_cons_succ, i64_w, i32_w]
                         rfl
                        refine pure_ (i := 7) (N := some 76) (v := ?_) (a' := ?_) #[true, true, true, true, true, true, true, true, false, false, false, false, false, false, false, false, false, false, false, false, false, false, false, false, false, false, false, false, false, false] rfl rfl (any_of HT_.out (by kernel_rfl)) (fun _ _ _ h => h) (Or.inl ⟨by rfl, ?_⟩) ?_ ?_
                        rotate_left
                        ·intro w'
                         go_simp
                         with_reducible rfl
                        rotate_left
                        ·simp only [Act.put, List.setIfInBounds_toArray, List.set_cons_zero, List.set_cons_succ, i64_w, i32_w]
                         rfl
                        refine pure_ (i := 8) (N := some 77) (v := ?_) (a' := ?_) #[true, true, true, true, true, true, true, true, true, false, false, false, false, false, false, false, false, false, false, false, false, false, false, false, false, false, false, false, false, false] rfl rfl (any_of HT_.out (by kernel_rfl)) (fun _ _ _ h => h) (Or.inl ⟨by rfl, ?_⟩) ?_ ?_
                        rotate_left
                        ·intro w'
                         go_simp
                         with_reducible rfl
                        rotate_left
                        ·simp only [Act.put, List.setIfInBounds_toArray, List.set_cons_zero, List.set_cons_succ, i64_w, i32_w]
                         rfl
                        refine pure_ (i := 9) (N := some 78) (v := ?_) (a' := ?_) #[true, true, true, true, true, true, true, true, true, true, false, false, false, false, false, false, false, false, false, false, false, false, false, false, false, false, false, false, false, false] rfl rfl (any_of HT_.out (by kernel_rfl)) (fun _ _ _ h => h) (Or.inl ⟨by rfl, ?_⟩) ?_ ?_
                        rotate_left
                        ·intro w'
                         go_simp
                         with_reducible rfl
                        rotate_left
                        ·simp only [Act.put, List.setIfInBounds_toArray, List.set_cons_zero, List.set_cons_succ, i64_w, i32_w]
                         rfl
                        refine pure_ (i := 10) (N := some 79) (v := undef) (a' := ?_) #[true, true, true, true, true, true, true, true, true, true, true, false, false, false, false, false, false, false, false, false, false, false, false, false, false, false, false, false, false, false] rfl rfl (any_of HT_.out (by kernel_rfl)) (fun _ _ _ h => h) (Or.inr ⟨by rfl, rfl⟩) ?_ ?_
                        rotate_left
                        ·simp only [Act.put, List.setIfInBounds_toArray, List.set_cons_zero, List.set_cons_succ, i64_w, i32_w]
                         rfl
                        refine pure_ (i := 11) (N := some 80) (v := undef) (a' := ?_) #[true, true, true, true, true, true, true, true, true, true, true, true, false, false, false, false, false, false, false, false, false, false, false, false, false, false, false, false, false, false] rfl rfl (any_of HT_.out (by kernel_rfl)) (fun _ _ _ h => h) (Or.inr ⟨by rfl, rfl⟩) ?_ ?_
                        rotate_left
                        ·simp only [Act.put, List.setIfInBounds_toArray, List.set_cons_zero, List.set_cons_succ, i64_w, i32_w]
                         rfl
                        refine pure_ (i := 12) (N := some 81) (v := undef) (a' := ?_) #[true, true, true, true, true, true, true, true, true, true, true, true, true, false, false, false, false, false, false, false, false, false, false, false, false, false, false, false, false, false] rfl rfl (any_of HT_.out (by kernel_rfl)) (fun _ _ _ h => h) (Or.inr ⟨by rfl, rfl⟩) ?_ ?_
                        rotate_left
                        ·simp only [Act.put, List.setIfInBounds_toArray, List.set_cons_zero, List.set_cons_succ, i64_w, i32_w]
                         rfl
                        refine pure_ (i := 13) (N := some 82) (v := undef) (a' := ?_) #[true, true, true, true, true, true, true, true, true, true, true, true, true, true, false, false, false, false, false, false, false, false, false, false, false, false, false, false, false, false] rfl rfl (any_of HT_.out (by kernel_rfl)) (fun _ _ _ h => h) (Or.inr ⟨by rfl, rfl⟩) ?_ ?_
                        rotate_left
                        ·simp only [Act.put, List.setIfInBounds_toArray, List.set_cons_zero, List.set_cons_succ, i64_w, i32_w]
                         rfl
                        refine pure_ (i := 14) (N := some 83) (v := undef) (a' := ?_) #[true, true, true, true, true, true, true, true, true, true, true, true, true, true, true, false, false, false, false, false, false, false, false, false, false, false, false, false, false, false] rfl rfl (any_of HT_.out (by kernel_rfl)) (fun _ _ _ h => h) (Or.inr ⟨by rfl, rfl⟩) ?_ ?_
                        rotate_left
                        ·simp only [Act.put, List.setIfInBounds_toArray, List.set_cons_zero, List.set_cons_succ, i64_w, i32_w]
                         rfl
                        refine pure_ (i := 15) (N := some 84) (v := undef) (a' := ?_) #[true, true, true, true, true, true, true, true, true, true, true, true, true, true, true, true, false, false, false, false, false, false, false, false, false, false, false, false, false, false] rfl rfl (any_of HT_.out (by kernel_rfl)) (fun _ _ _ h => h) (Or.inr ⟨by rfl, rfl⟩) ?_ ?_
                        rotate_left
                        ·simp only [Act.put, List.setIfInBounds_toArray, List.set_cons_zero, List.set_cons_succ, i64_w, i32_w]
                         rfl
                        refine pure_ (i := 16) (N := some 85) (v := undef) (a' := ?_) #[true, true, true, true, true, true, true, true, true, true, true, true, true, true, true, true, true, false, false, false, false, false, false, false, false, false, false, false, false, false] rfl rfl (any_of HT_.out (by kernel_rfl)) (fun _ _ _ h => h) (Or.inr ⟨by rfl, rfl⟩) ?_ ?_
                        rotate_left
                        ·simp only [Act.put, List.setIfInBounds_toArray, List.set_cons_zero, List.set_cons_succ, i64_w, i32_w]
                         rfl
                        refine pure_ (i := 17) (N := some 86) (v := undef) (a' := ?_) #[true, true, true, true, true, true, true, true, true, true, true, true, true, true, true, true, true, true, false, false, false, false, false, false, false, false, false, false, false, false] rfl rfl (any_of HT_.out (by kernel_rfl)) (fun _ _ _ h => h) (Or.inr ⟨by rfl, rfl⟩) ?_ ?_
                        rotate_left
                        ·simp only [Act.put, List.setIfInBounds_toArray, List.set_cons_zero, List.set_cons_succ, i64_w, i32_w]
                         rfl
                        refine pure_ (i := 18) (N := some 87) (v := undef) (a' := ?_) #[true, true, true, true, true, true, true, true, true, true, true, true, true, true, true, true, true, true, true, false, false, false, false, false, false, false, false, false, false, false] rfl rfl (any_of HT_.out (by kernel_rfl)) (fun _ _ _ h => h) (Or.inr ⟨by rfl, rfl⟩) ?_ ?_
                        rotate_left
                        ·simp only [Act.put, List.setIfInBounds_toArray, List.set_cons_zero, List.set_cons_succ, i64_w, i32_w]
                         rfl
                        refine pure_ (i := 19) (N := some 88) (v := undef) (a' := ?_) #[true, true, true, true, true, true, true, true, true, true, true, true, true, true, true, true, true, true, true, true, false, false, false, false, false, false, false, false, false, false] rfl rfl (any_of HT_.out (by kernel_rfl)) (fun _ _ _ h => h) (Or.inr ⟨by rfl, rfl⟩) ?_ ?_
                        rotate_left
                        ·simp only [Act.put, List.setIfInBounds_toArray, List.set_cons_zero, List.set_cons_succ, i64_w, i32_w]
                         rfl
                        refine pure_ (i := 20) (N := some 89) (v := undef) (a' := ?_) #[true, true, true, true, true, true, true, true, true, true, true, true, true, true, true, true, true, true, true, true, true, false, false, false, false, false, false, false, false, false] rfl rfl (any_of HT_.out (by kernel_rfl)) (fun _ _ _ h => h) (Or.inr ⟨by rfl, rfl⟩) ?_ ?_
                        rotate_left
                        ·simp only [Act.put, List.setIfInBounds_toArray, List.set_cons_zero, List.set_cons_succ, i64_w, i32_w]
                         rfl
                        refine pure_ (i := 21) (N := some 90) (v := undef) (a' := ?_) #[true, true, true, true, true, true, true, true, true, true, true, true, true, true, true, true, true, true, true, true, true, true, false, false, false, false, false, false, false, false] rfl rfl (any_of HT_.out (by kernel_rfl)) (fun _ _ _ h => h) (Or.inr ⟨by rfl, rfl⟩) ?_ ?_
                        rotate_left
                        ·simp only [Act.put, List.setIfInBounds_toArray, List.set_cons_zero, List.set_cons_succ, i64_w, i32_w]
                         rfl
                        refine pure_ (i := 22) (N := some 91) (v := undef) (a' := ?_) #[true, true, true, true, true, true, true, true, true, true, true, true, true, true, true, true, true, true, true, true, true, true, true, false, false, false, false, false, false, false] rfl rfl (any_of HT_.out (by kernel_rfl)) (fun _ _ _ h => h) (Or.inr ⟨by rfl, rfl⟩) ?_ ?_
                        rotate_left
                        ·simp only [Act.put, List.setIfInBounds_toArray, List.set_cons_zero, List.set_cons_succ, i64_w, i32_w]
                         rfl
                        refine pure_ (i := 23) (N := some 92) (v := undef) (a' := ?_) #[true, true, true, true, true, true, true, true, true, true, true, true, true, true, true, true, true, true, true, true, true, true, true, true, false, false, false, false, false, false] rfl rfl (any_of HT_.out (by kernel_rfl)) (fun _ _ _ h => h) (Or.inr ⟨by rfl, rfl⟩) ?_ ?_
                        rotate_left
                        ·simp only [Act.put, List.setIfInBounds_toArray, List.set_cons_zero, List.set_cons_succ, i64_w, i32_w]
                         rfl
                        refine pure_ (i := 24) (N := some 93) (v := undef) (a' := ?_) #[true, true, true, true, true, true, true, true, true, true, true, true, true, true, true, true, true, true, true, true, true, true, true, true, true, false, false, false, false, false] rfl rfl (any_of HT_.out (by kernel_rfl)) (fun _ _ _ h => h) (Or.inr ⟨by rfl, rfl⟩) ?_ ?_
                        rotate_left
                        ·simp only [Act.put, List.setIfInBounds_toArray, List.set_cons_zero, List.set_cons_succ, i64_w, i32_w]
                         rfl
                        refine pure_ (i := 25) (N := some 94) (v := undef) (a' := ?_) #[true, true, true, true, true, true, true, true, true, true, true, true, true, true, true, true, true, true, true, true, true, true, true, true, true, true, false, false, false, false] rfl rfl (any_of HT_.out (by kernel_rfl)) (fun _ _ _ h => h) (Or.inr ⟨by rfl, rfl⟩) ?_ ?_
                        rotate_left
                        ·simp only [Act.put, List.setIfInBounds_toArray, List.set_cons_zero, List.set_cons_succ, i64_w, i32_w]
                         rfl
                        refine pure_ (i := 26) (N := some 95) (v := ?_) (a' := ?_) #[true, true, true, true, true, true, true, true, true, true, true, true, true, true, true, true, true, true, true, true, true, true, true, true, true, true, true, false, false, false] rfl rfl (any_of HT_.out (by kernel_rfl)) (fun _ _ _ h => h) (Or.inl ⟨by rfl, ?_⟩) ?_ ?_
                        rotate_left
                        ·intro w'
                         go_simp
                         with_reducible rfl
                        rotate_left
                        ·simp only [Act.put, List.setIfInBounds_toArray, List.set_cons_zero, List.set_cons_succ, i64_w, i32_w]
                         rfl
                        refine pure_ (i := 27) (N := some 96) (v := ?_) (a' := ?_) #[true, true, true, true, true, true, true, true, true, true, true, true, true, true, true, true, true, true, true, true, true, true, true, true, true, true, true, true, false, false] rfl rfl (any_of HT_.out (by kernel_rfl)) (fun _ _ _ h => h) (Or.inl ⟨by rfl, ?_⟩) ?_ ?_
                        rotate_left
                        ·intro w'
                         go_simp
                         with_reducible rfl
                        rotate_left
                        ·simp only [Act.put, List.setIfInBounds_toArray, List.set_cons_zero, List.set_cons_succ, i64_w, i32_w]
                         rfl
                        refine pure_ (i := 28) (N := some 97) (v := ?_) (a' := ?_) #[true, true, true, true, true, true, true, true, true, true, true, true, true, true, true, true, true, true, true, true, true, true, true, true, true, true, true, true, true, false] rfl rfl (any_of HT_.out (by kernel_rfl)) (fun _ _ _ h => h) (Or.inl ⟨by rfl, ?_⟩) ?_ ?_
                        rotate_left
                        ·intro w'
                         go_simp
                         with_reducible rfl
                        rotate_left
                        ·simp only [Act.put, List.setIfInBounds_toArray, List.set_cons_zero, List.set_cons_succ, i64_w, i32_w]
                         rfl
                        refine last_ (i := 29) (N := none) #[true, true, true, true, true, true, true, true, true, true, true, true, true, true, true, true, true, true, true, true, true, true, true, true, true, true, true, true, true, true] rfl rfl (one_of HT_.out (by kernel_rfl)) (by decide) (fun K hK => ?_)
                        refine skip_ (w1 := ?_) (by rfl) rfl ?_ ?_
                        rotate_left
                        ·go_simp
                         rfl
                        refine hK.out _ _ ?_
                        clear hK K
                        refine done_ (done_of HT_.out (by kernel_rfl)) ?_
                        try go_wp2
                        go_roundg k4
                        case measure => have := HK1.out; have := HK2.out; have := HK3.out; have := HK4.out; omega
                        case rel => exact ⟨(y155), (wrap64 (x12_4 + 1)), (by first | rfl | (simp; done) | (simp [*]; done)), H', ⟨by have := HK1.out; have := HK2.out; have := HK3.out; have := HK4.out; omega⟩, ⟨by (with_reducible repeat (first | apply Kd.N_alloc | apply Kd.N_drewN | apply Kd.N_drew)); exact Kd.N_mono (Kd.N_far (p := ⟨go58, (x11_3 : Int).toNat, none⟩) (Kd.N_mono HO_6.out (fun k_ hk => (⟨hk, fun e_ => hk.2.2.1 (by rw [e_]; rfl)⟩ : _ ∧ k_ ≠ go58))) (fun _ hk => hk.2) (.bool false)) (fun _ hk => ⟨hk.1.1, ⟨hk.1.2.1, ⟨hk.1.2.2.1, hk.1.2.2.2⟩⟩⟩)⟩, ⟨by (with_reducible repeat (first | apply Kd.N_alloc | apply Kd.N_drewN | apply Kd.N_drew)); exact Kd.N_mono (Kd.N_far (p := ⟨go58, (x11_3 : Int).toNat, none⟩) (Kd.N_mono HO_8.out (fun k_ hk => (⟨hk, fun e_ => hk.2.2.1 (by rw [e_]; rfl)⟩ : _ ∧ k_ ≠ go58))) (fun _ hk => hk.2) (.bool false)) (fun _ hk => ⟨hk.1.1, ⟨hk.1.2.1, ⟨hk.1.2.2.1, hk.1.2.2.2⟩⟩⟩)⟩, ⟨by (with_reducible repeat (first | apply Kd.R_alloc | apply Kd.R_drewN | apply Kd.R_drew)); exact HQ62.out⟩, ⟨by (with_reducible repeat (first | refine blk_drewN ?_ _ | refine blk_drew ?_ | refine blk_alloc ?_ _)); refine blk_far ?_ (by have h_ := Kd.R_ne HO_10.out BK118.out (by decide); intro e_; exact h_ (by rw [e_]; rfl)) _; (with_reducible repeat (first | refine blk_drewN ?_ _ | refine blk_drew ?_ | refine blk_alloc ?_ _)); exact BK118.out⟩, ⟨by repeat (first | (with_reducible first | exact HB.out | apply below_alloc | apply pw_below_drewN | apply below_drew1 | refine below_set ?_ GB58.out | refine below_set ?_ GE118.out) | exact HB.out)⟩⟩
                     ·rw [if_neg c39] at H
                      exact absurd H (by simp)
                   ·rw [if_neg c34] at H
                    exact absurd H (by simp)
                  ·rw [if_neg c33] at H
                   have c33b0 : decide (x12_4 < ((rd_L5 x6_1 x11_3).length : Int)) = false := decide_eq_false c33
                   clear c33
                   have H' := Aside0.mk H
                   clear H
                   obtain ⟨Ao63, co63, eo63⟩ := Kd.N_slice HO_6.out
                   subst eo63
                   have p145 : 0 ≤ (x11_3 : Int) := of_decide_eq_true (by first | (with_reducible assumption) | assumption)
                   have q145 : x11_3 < (x6_1.length : Int) := of_decide_eq_true (by first | (with_reducible assumption) | assumption)
                   obtain ⟨ad145, A145_0, c145_0, e145, hx145_0, hl145_0, hi145_0⟩ := at_L5 (Kd.N_reads' HO_6.out).2.2 x11_3 p145 q145
                   cases e145
                   obtain ⟨ce145, hce145, hMe145, hcc145⟩ := Kd.N_get HO_6.out [] x11_3 p145 (by first | exact q145 | exact of_decide_eq_true (by first | (with_reducible assumption) | assumption) | (have e_ := (Kd.N_reads' HO_6.out).1; omega))
                   obtain ⟨ua145_0, uc145_0, rfl, ul145_0, ge145_0⟩ := Kd.FK_slice_open hMe145
                   have hv145_0 := hcc145 0 _ rfl
                   rw [Nat.add_zero, show ((Kd.slice 98 k98)).sz = 1 from rfl, Nat.mul_one] at hv145_0
                   replace hv145_0 := Option.some.inj (hv145_0.symm.trans hx145_0)
                   injection hv145_0 with hva_ hvn_ hvc_
                   rw [hva_] at ge145_0
                   rw [hvc_] at ul145_0
                   have HL145_0 := Aside0.mk (show Kd.V k98 98 _ w.heap.size _ _ (rd_L5 x6_1 x11_3) from Kd.V_mk ul145_0 ge145_0)
                   clear hva_ hvn_ hvc_ ge145_0 ul145_0
                   clear hcc145 hce145
                   have HR145_0 := Aside0.mk hi145_0
                   have HC145_0 := Aside0.mk hl145_0
                   clear hi145_0 hl145_0
                   replace p145 := eq_true p145
                   replace q145 := eq_true q145
                   go_wp2
                   go_roundg k4
                   case measure => have := HK1.out; have := HK2.out; have := HK3.out; have := HK4.out; omega
                   case rel => exact ⟨(x10_4), (wrap64 (x11_3 + 1)), (by first | rfl | (simp; done) | (simp [*]; done)), H', ⟨by have := HK1.out; have := HK2.out; have := HK3.out; have := HK4.out; omega⟩, ⟨by (with_reducible repeat (first | apply Kd.N_alloc | apply Kd.N_drewN | apply Kd.N_drew)); exact HO_6.out⟩, ⟨by (with_reducible repeat (first | apply Kd.N_alloc | apply Kd.N_drewN | apply Kd.N_drew)); exact HO_8.out⟩, ⟨by (with_reducible repeat (first | apply Kd.R_alloc | apply Kd.R_drewN | apply Kd.R_drew)); exact HO_10.out⟩, ⟨by (with_reducible repeat (first | refine blk_drewN ?_ _ | refine blk_drew ?_ | refine blk_alloc ?_ _)); exact BK118.out⟩, ⟨by repeat (first | (with_reducible first | exact HB.out | apply below_alloc | apply pw_below_drewN | apply below_drew1 | refine below_set ?_ GE118.out) | exact HB.out)⟩⟩
                 ·rw [if_neg c32] at H
                  exact absurd H (by simp)
                ·rw [if_neg c31] at H
                 exact absurd H (by simp)
             ·rw [if_neg c30] at H
              have c30b0 : decide (x11_3 < t119) = false := decide_eq_false c30
              clear c30
              by_cases c64 : x8_2.length < 5864062014805
              ·rw [if_pos c64] at H
               have LMc64 := Aside0.mk c64
               clear c64
               obtain ⟨y142, hy142⟩ : ∃ y_ : List (List Bool), y_ = (x8_2 ++ [x10_3]) := ⟨_, rfl⟩
               replace H : (spec_l4Measured.l1 k3 a1 t119 x6_1 y142 (wrap64 (x9_2 + 1))) = some r := by first | (rw [hy142]; with_reducible exact H) | (have H2_ := (Option.bind_some _ _).symm.trans H; rw [hy142]; with_reducible exact H2_) | (have H2_ := (Option.bind_some _ _).symm.trans H; with_reducible exact H2_) | with_reducible exact H | (rw [hy142]; exact H) | exact H
               have Ny142 := Aside0.mk hy142
               clear hy142
               have H' := Aside0.mk H
               clear H
               obtain ⟨Ao66, co66, eo66⟩ := Kd.R_slice HO_10.out
               subst eo66
               go_wp2_with (first | ((with_reducible refine gate_builtin (b := .append) (xs := #[.tmp 98, .tmp 100]) rfl ?_); at_builtin; refine Kd.N_append (Kd.slice 4 Kd.bool) (w0 := w) w.heap.size rfl (.tmp 98) (.tmp 100) 61 60 (.slice none 0 0) 24 rfl Try.underlying61 info60 rfl (by decide) (by omega) u8 x8_2 x10_3 [.slice Ao66 x10_3.length co66] (fun k_ => (w.heap.size ≤ k_) ∧ some k_ ≠ (u6 : Value).ownBlock ∧ k_ ≠ gb118) (fun k_ => ((fun k_ => (w.heap.size ≤ k_) ∧ some k_ ≠ (u6 : Value).ownBlock ∧ k_ ≠ gb118)) k_ ∧ some k_ ≠ (u8 : Value).ownBlock) rfl rfl ?aP (fun _ hk => hk) ?aF ?aO ?aB ?aS ?aL ?_; (case aP => exact (Kd.FK_slice_mk (Kd.R_reads' (Kd.R_mono (ok' := (fun k_ => ((fun k_ => (w.heap.size ≤ k_) ∧ some k_ ≠ (u6 : Value).ownBlock ∧ k_ ≠ gb118)) k_ ∧ some k_ ≠ (u8 : Value).ownBlock)) (Kd.R_types (Kd.R_apart' (Kd.R_apart' (HO_10.out) (Kd.N_typed HO_6.out) (by decide)) (Kd.N_typed HO_8.out) (by decide)) BK118.out (by decide)) (fun k_ hk => ⟨⟨hk.1.1.1, ⟨hk.1.1.2, hk.2⟩⟩, hk.1.2⟩))).2.1 (Kd.R_F (Kd.R_mono (ok' := (fun k_ => ((fun k_ => (w.heap.size ≤ k_) ∧ some k_ ≠ (u6 : Value).ownBlock ∧ k_ ≠ gb118)) k_ ∧ some k_ ≠ (u8 : Value).ownBlock)) (Kd.R_types (Kd.R_apart' (Kd.R_apart' (HO_10.out) (Kd.N_typed HO_6.out) (by decide)) (Kd.N_typed HO_8.out) (by decide)) BK118.out (by decide)) (fun k_ hk => ⟨⟨hk.1.1.1, ⟨hk.1.1.2, hk.2⟩⟩, hk.1.2⟩))))); (case aB => exact (by repeat (first | (with_reducible first | exact HB.out | apply below_alloc | apply pw_below_drewN | apply below_drew1 | refine below_set ?_ GE118.out) | exact HB.out))); (case aF => exact (fun k_ hk => ⟨(Nat.le_trans (below_size (by repeat (first | (with_reducible first | exact HB.out | apply below_alloc | apply pw_below_drewN | apply below_drew1 | refine below_set ?_ GE118.out) | exact HB.out))) hk), Kd.fresh' (Kd.N_lt (by (with_reducible repeat (first | apply Kd.N_alloc | apply Kd.N_drewN | apply Kd.N_drew)); exact HO_6.out)) k_ hk, Kd.freshB (g := gb118) (o := .cells #[.int .i64 a0_0, .int .i64 a0_1, .int .i64 a0_2, .int .i64 a0_3] 27 (0, 0)) (by (with_reducible repeat (first | refine blk_drewN ?_ _ | refine blk_drew ?_ | refine blk_alloc ?_ _)); exact BK118.out) k_ hk⟩)); (case aO => exact (by (with_reducible repeat (first | apply Kd.N_alloc | apply Kd.N_drewN | apply Kd.N_drew)); exact Kd.N_mono HO_8.out (fun _ hk => ⟨hk.1, ⟨hk.2.1, hk.2.2.2⟩⟩))); (case aS => exact (below_size (by repeat (first | (with_reducible first | exact HB.out | apply below_alloc | apply pw_below_drewN | apply below_drew1 | refine below_set ?_ GE118.out) | exact HB.out)))); (case aL => have := LMc64.out; omega); intro v143 w65 ho hb hg hat; rw [← Ny142.out] at ho; have n0_ := Aside0.mk (Kd.N_afterv (ok := (fun k_ => (w.heap.size ≤ k_) ∧ some k_ ≠ (.slice Ao66 x10_3.length co66 : Value).ownBlock ∧ k_ ≠ gb118)) (by (with_reducible repeat (first | apply Kd.N_alloc | apply Kd.N_drewN | apply Kd.N_drew)); exact Kd.N_mono HO_6.out (fun _ hk => ⟨⟨hk.1, ⟨hk.2.2.1, hk.2.2.2⟩⟩, hk.2.1⟩)) hg hat); have n1_ := Aside0.mk (blk_grown (g := gb118) (o := .cells #[.int .i64 a0_0, .int .i64 a0_1, .int .i64 a0_2, .int .i64 a0_3] 27 (0, 0)) (by (with_reducible repeat (first | refine blk_drewN ?_ _ | refine blk_drew ?_ | refine blk_alloc ?_ _)); exact BK118.out) hg (Kd.N_ne HO_8.out BK118.out (by decide))); have n2_ := Aside0.mk (hb); have n3_ := Aside0.mk (ho); clear HO_6; clear BK118; clear HB; clear HO_8; clear HO_10; have HO_6 := n0_; have BK118 := n1_; have HB := n2_; have HO144 := n3_; clear n0_ n1_ n2_ n3_; clear ho hb hg hat))
               go_roundg k3
               case measure => have := HK1.out; have := HK2.out; have := HK3.out; omega
               case rel => exact ⟨(y142), (wrap64 (x9_2 + 1)), (by first | rfl | (simp; done) | (simp [*]; done)), H', ⟨by have := HK1.out; have := HK2.out; have := HK3.out; omega⟩, ⟨by (with_reducible repeat (first | apply Kd.N_alloc | apply Kd.N_drewN | apply Kd.N_drew)); exact Kd.N_mono HO_6.out (fun _ hk => ⟨hk.1.1, ⟨hk.2, hk.1.2.2⟩⟩)⟩, ⟨by (with_reducible repeat (first | apply Kd.N_alloc | apply Kd.N_drewN | apply Kd.N_drew)); exact HO144.out⟩, ⟨by (with_reducible repeat (first | refine blk_drewN ?_ _ | refine blk_drew ?_ | refine blk_alloc ?_ _)); exact BK118.out⟩, ⟨by repeat (first | (with_reducible first | exact HB.out | apply below_alloc | apply pw_below_drewN | apply below_drew1 | refine below_set ?_ GE118.out) | exact HB.out)⟩⟩
              ·rw [if_neg c64] at H
               exact absurd H (by simp)
          ·rw [if_neg c27] at H
           exact absurd H (by simp)
         ·rw [if_neg c26] at H
          exact absurd H (by simp)
        ·rw [if_neg c25] at H
         have c25b0 : decide (x9_2 ≤ a1) = false := decide_eq_false c25
         clear c25
         obtain rfl := Option.some.inj H
         go_wp2
         go_ret
         exact ⟨_, by first | rfl | (simp [errW_none, errW_some] <;> rfl) | (simp [*, errW_none, errW_some] <;> rfl), by (with_reducible repeat (first | apply Kd.N_alloc | apply Kd.N_drewN | apply Kd.N_drew)); exact Kd.N_mono HO_8.out (fun _ hk => hk.1), by repeat (first | (with_reducible first | exact HB.out | apply below_alloc | apply pw_below_drewN | apply below_drew1 | refine below_set ?_ GE118.out) | exact HB.out)⟩
     ·rw [if_neg c19] at H
      exact absurd H (by simp)
    ·rw [if_neg c18] at H
     exact absurd H (by simp)
end Go.Proofs.Ytlhodfjdmafapaa.QMs
end
section
namespace Go.Proofs.Ytlhodfjdmafapaa
open Go.RowKit Go.Proofs.YtlhodfjdmafapaaW.PrintWords Go.Proofs.YtlhodfjdmafapaaW.PrintLast Go.Proofs.Ytlhodfjdmafapaa.QMs
set_option linter.unusedVariables false
set_option linter.unusedSimpArgs false
theorem sandB_ofM {k s : Nat → Int} (h : Sand k s) : isSandB k s = true := by
 simp only [isSandB, Bool.and_eq_true, inB_iff]
 exact ⟨⟨⟨⟨h.lo 0 (by omega), h.hi 0 (by omega)⟩, ⟨h.lo 1 (by omega), h.hi 1 (by omega)⟩⟩, ⟨h.lo 2 (by omega), h.hi 2 (by omega)⟩⟩, ⟨h.lo 3 (by omega), h.hi 3 (by omega)⟩⟩
def toSM (p : Int × Int) : S98 := ⟨p.1, p.2⟩
def stepsM (k : Nat → Int) (x : Sd) (l : List Int) : List (Int × Int) := (l.filter fun set => decide (0 < goD k x set)).map fun set => (idn k (goS k x set), goD k x set)
theorem stepsM_l0 (a b c d : Int) (hk : isKitB (v4 a b c d) = true) (x0 x1 x2 x3 : Int) (hx : Sand (v4 a b c d) (fn4 (x0, x1, x2, x3))) : ∀ (m i : Nat) (acc : List S98), i + m = 16 → acc.length ≤ i → spec_l4Next.l0 (m + 1) acc (i : Int) a b c d x0 x1 x2 x3 = some (acc ++ (stepsM (v4 a b c d) (x0, x1, x2, x3) (((List.range' i m).map fun (j : Nat) => (j : Int)).filter (isSetB (v4 a b c d)))).map toSM)
 | 0, i, acc, h, ha => by
  simp only [spec_l4Next.l0]
  rw [if_neg (by omega)]
  simp [stepsM]
 | m + 1, i, acc, h, ha => by
  have hs : xL2Set.f a b c d (i : Int) = some (isSetB (v4 a b c d) (i : Int)) := rfl
  have hw : wrap64 ((i : Int) + 1) = ((i + 1 : Nat) : Int) := by unfold wrap64; omega
  rw [spec_l4Next.l0, if_pos (by omega), hs, Option.bind_some]
  cases hb : isSetB (v4 a b c d) (i : Int)
  ·rw [if_neg (by simp), hw, stepsM_l0 a b c d hk x0 x1 x2 x3 hx m (i + 1) acc (by omega) (by omega)]
   simp [List.range'_succ, hb]
  ·rw [if_pos rfl]
   have ht : xL2Step.f a b c d x0 x1 x2 x3 (i : Int) = some ((stepS (v4 a b c d) (fn4 (x0, x1, x2, x3)) i) 0, (stepS (v4 a b c d) (fn4 (x0, x1, x2, x3)) i) 1, (stepS (v4 a b c d) (fn4 (x0, x1, x2, x3)) i) 2, (stepS (v4 a b c d) (fn4 (x0, x1, x2, x3)) i) 3, stepD (v4 a b c d) (fn4 (x0, x1, x2, x3)) i) := by
    unfold xL2Step.f
    have : (isKitB (v4 a b c d) && isSandB (v4 a b c d) (v4 x0 x1 x2 x3)) = true := by rw [hk, show isSandB (v4 a b c d) (v4 x0 x1 x2 x3) = true from sandB_ofM hx]; rfl
    rw [if_pos this]
    rfl
   rw [ht, Option.bind_some]
   simp only []
   have hd : stepD (v4 a b c d) (fn4 (x0, x1, x2, x3)) i = goD (v4 a b c d) (x0, x1, x2, x3) i := rfl
   rw [hd]
   by_cases q : 0 < goD (v4 a b c d) (x0, x1, x2, x3) i
   ·rw [if_pos q]
    have hi : xL4Id.f a b c d (stepS (v4 a b c d) (fn4 (x0, x1, x2, x3)) i 0) (stepS (v4 a b c d) (fn4 (x0, x1, x2, x3)) i 1) (stepS (v4 a b c d) (fn4 (x0, x1, x2, x3)) i 2) (stepS (v4 a b c d) (fn4 (x0, x1, x2, x3)) i 3) = some (idn (v4 a b c d) (goS (v4 a b c d) (x0, x1, x2, x3) i)) := rfl
    rw [hi, Option.bind_some, if_pos (by omega), hw, stepsM_l0 a b c d hk x0 x1 x2 x3 hx m (i + 1) _ (by omega) (by simp; omega)]
    simp [List.range'_succ, hb, stepsM, q, toSM]
   ·rw [if_neg q, hw, stepsM_l0 a b c d hk x0 x1 x2 x3 hx m (i + 1) acc (by omega) (by omega)]
    simp [List.range'_succ, hb, stepsM, q]
theorem stepsM_ev (a b c d : Int) (hk : isKitB (v4 a b c d) = true) (id : Int) (h0 : 0 ≤ id) : Ev (fun f => spec_l4Next.f f a b c d ((sandAt (v4 a b c d) id) 0) ((sandAt (v4 a b c d) id) 1) ((sandAt (v4 a b c d) id) 2) ((sandAt (v4 a b c d) id) 3)) ((nextL (v4 a b c d) id).map toSM) := by
 have hx := sandX_sand (kit_bounds hk) (id := id) h0
 have := stepsM_l0 a b c d hk _ _ _ _ hx 16 0 [] (by omega) (by simp)
 refine Ev.of (k := 17) (fun n => spec_l4Next.mono _ _ _ _ _ _ _ _ n) ?_
 unfold spec_l4Next.f
 rw [show (0 : Int) = ((0 : Nat) : Int) from rfl, this, List.nil_append]
 rfl
/-! the table -/
def rowM (k : Nat → Int) (N t : Nat) : List Bool := (List.range N).map fun i => mB k t (sandX k (i : Nat))
/-- the reference's table: a row for each span, a column for each sand -/
def measT (k : Nat → Int) (N T : Nat) : List (List Bool) := List.replicate N false :: (List.range T).map fun t => rowM k N (t + 1)
def hitM (k : Nat → Int) (t : Nat) (p : Int × Int) : Bool := decide (p.2 ≤ (t : Int)) && mB k (t - p.2.toNat) (sandX k p.1)
theorem any_hit {k : Nat → Int} (hk : ∀ i, i < 4 → 0 ≤ k i ∧ k i ≤ 30) {id : Int} (h0 : 0 ≤ id) (t : Nat) : (nextL k id).any (hitM k (t + 1)) = mB k (t + 1) (sandX k id) := by
 have hS := sandX_sand hk h0
 rw [mB_succ, Bool.eq_iff_iff, List.any_eq_true, List.any_eq_true]
 constructor
 ·rintro ⟨p, hp, hh⟩
  obtain ⟨set, s1, s2, s3, s4, s5, s6, s7⟩ := nextL_mem hk h0 hp
  refine ⟨(goS k (sandX k id) set, goD k (sandX k id) set), edges_mem.2 ⟨set, s1, s2, rfl⟩, ?_⟩
  rw [hit_mB s2]
  unfold hitM at hh
  rw [s4, s7] at hh
  simpa using hh
 ·rintro ⟨e, he, hh⟩
  obtain ⟨set, s1, s2, rfl⟩ := edges_mem.1 he
  refine ⟨(idn k (goS k (sandX k id) set), goD k (sandX k id) set), List.mem_map.2 ⟨set, List.mem_filter.2 ⟨s1, decide_eq_true s2⟩, rfl⟩, ?_⟩
  rw [hit_mB s2] at hh
  unfold hitM
  simp only
  rw [show sandX k (idn k (goS k (sandX k id) set)) = goS k (sandX k id) set from sandX_idn hk (sand_tup (hS.step set))]
  simpa using hh
theorem rowM_len (k : Nat → Int) (N t : Nat) : (rowM k N t).length = N := by simp [rowM]
theorem rowM_rd {k : Nat → Int} {N t : Nat} {i : Int} (h0 : 0 ≤ i) (h1 : i < N) : rdOf false (rowM k N t) i = mB k t (sandX k i) := by
 unfold rdOf rowM
 rw [List.getD_eq_getElem?_getD, List.getElem?_map, List.getElem?_range (by omega)]
 show mB k t (sandX k ((i.toNat : Nat) : Int)) = _
 rw [show ((i.toNat : Nat) : Int) = i by omega]
theorem measT_len (k : Nat → Int) (N T : Nat) : (measT k N T).length = T + 1 := by simp [measT]
theorem measT_at {k : Nat → Int} {N T : Nat} {u : Nat} (h0 : 1 ≤ u) (h1 : u ≤ T) : (measT k N T).getD u [] = rowM k N u := by
 obtain ⟨v, rfl⟩ : ∃ v, u = v + 1 := ⟨u - 1, by omega⟩
 unfold measT
 rw [List.getD_cons_succ, List.getD_eq_getElem?_getD, List.getElem?_map, List.getElem?_range (by omega)]
 rfl
theorem measT_rd {k : Nat → Int} {N T : Nat} {u : Int} (h0 : 1 ≤ u) (h1 : u ≤ T) : rd_L6 (measT k N T) u = rowM k N u.toNat := by
 unfold rd_L6
 exact measT_at (by omega) (by omega)
theorem measT_succ (k : Nat → Int) (N T : Nat) : measT k N (T + 1) = measT k N T ++ [rowM k N (T + 1)] := by
 unfold measT
 rw [List.range_succ, List.map_append]
 rfl
/-- a row under way -/
def rowU (k : Nat → Int) (N t i : Nat) (b : Bool) : List Bool := (List.range N).map fun j => if j < i then mB k t (sandX k (j : Nat)) else if j = i then b else false
theorem rowU_len (k : Nat → Int) (N t i : Nat) (b : Bool) : (rowU k N t i b).length = N := by simp [rowU]
theorem rowU_rd {k : Nat → Int} {N t i : Nat} {b : Bool} (h1 : i < N) : rdOf false (rowU k N t i b) (i : Int) = b := by
 unfold rdOf rowU
 rw [Int.toNat_natCast, List.getD_eq_getElem?_getD, List.getElem?_map, List.getElem?_range h1]
 simp
theorem rowU_set {k : Nat → Int} {N t i : Nat} {b : Bool} (c : Bool) (h1 : i < N) : (rowU k N t i b).set i c = rowU k N t i c := by
 refine List.ext_getElem (by simp [rowU]) fun j h1 h2 => ?_
 rw [List.getElem_set]
 simp only [rowU, List.getElem_map, List.getElem_range]
 by_cases q : i = j
 ·rw [if_pos q, if_neg (by omega), if_pos q.symm]
 ·rw [if_neg q]
  by_cases q2 : j < i
  ·rw [if_pos q2, if_pos q2]
  ·rw [if_neg q2, if_neg q2, if_neg (Ne.symm q), if_neg (Ne.symm q)]
theorem rowU_next {k : Nat → Int} {N t i : Nat} : rowU k N t i (mB k t (sandX k (i : Nat))) = rowU k N t (i + 1) false := by
 unfold rowU
 refine List.map_congr_left fun j hj => ?_
 by_cases q : j < i
 ·rw [if_pos q, if_pos (by omega)]
 ·rw [if_neg q]
  by_cases q2 : j = i
  ·rw [if_pos q2, if_pos (by omega), q2]
  ·rw [if_neg q2, if_neg (by omega)]
   split <;> rfl
theorem rowU_zero {k : Nat → Int} {N t : Nat} : rowU k N t 0 false = List.replicate N false := by
 refine List.ext_getElem (by simp [rowU]) fun j h1 h2 => ?_
 simp [rowU]
theorem rowU_all {k : Nat → Int} {N t : Nat} : rowU k N t N false = rowM k N t := by
 unfold rowU rowM
 refine List.map_congr_left fun j hj => ?_
 rw [if_pos (List.mem_range.1 hj)]
def stepsT (k : Nat → Int) (N : Nat) : List (List S98) := (List.range N).map fun i => (nextL k (i : Nat)).map toSM
theorem stepsT_len (k : Nat → Int) (N : Nat) : (stepsT k N).length = N := by simp [stepsT]
theorem stepsT_rd {k : Nat → Int} {N i : Nat} (h : i < N) : rd_L5 (stepsT k N) (i : Int) = (nextL k (i : Nat)).map toSM := by
 unfold rd_L5 stepsT
 rw [Int.toNat_natCast, List.getD_eq_getElem?_getD, List.getElem?_map, List.getElem?_range h]
 rfl
section
variable {k : Nat → Int} {N T : Nat} (hk : ∀ i, i < 4 → 0 ≤ k i ∧ k i ≤ 30) (hN : (N : Int) = prodT k) (hN2 : N ≤ 3000) (hT : T ≤ 60)
include hk hN hN2 hT
theorem meas_l3 (t i : Nat) (ht : 1 ≤ t) (htT : t ≤ T) (hi : i < N) (r : List (List Bool)) : ∀ (m j : Nat) (b : Bool), j + m = (nextL k (i : Nat)).length → Ev (fun f => spec_l4Measured.l2 f (T : Int) (N : Int) (stepsT k N) (measT k N (t - 1)) (t : Int) (rowU k N t i (b || ((nextL k (i : Nat)).drop j).any (hitM k t))) ((i : Int) + 1)) r → Ev (fun f => spec_l4Measured.l3 f (T : Int) (N : Int) (stepsT k N) (measT k N (t - 1)) (t : Int) (rowU k N t i b) (i : Int) (j : Int)) r := by
 have hlen := nextL_len k (i : Nat)
 have hw : wrap64 ((i : Int) + 1) = (i : Int) + 1 := wrap_big (by omega) (by omega)
 intro m
 induction m with
 | zero =>
  intro j b hj h
  rw [List.drop_eq_nil_of_le (by omega)] at h
  simp only [List.any_nil, Bool.or_false] at h
  refine Ev.step (f := fun f => _) (fun f => by simp only [spec_l4Measured.l3]; rfl) ?_
  refine ev_pos (by omega) (ev_pos (by rw [stepsT_len]; omega) (ev_neg (by rw [stepsT_rd hi, List.length_map]; omega) ?_))
  rw [hw]
  exact h
 | succ m ih =>
  intro j b hj h
  have hjl : j < (nextL k (i : Nat)).length := by omega
  have hwj : wrap64 ((j : Int) + 1) = ((j + 1 : Nat) : Int) := by unfold wrap64; omega
  obtain ⟨p, hp⟩ : ∃ p, (nextL k (i : Nat))[j]? = some p := ⟨_, List.getElem?_eq_getElem hjl⟩
  have hpm : p ∈ nextL k (i : Nat) := List.mem_of_getElem? hp
  obtain ⟨set, s1, s2, s3, s4, s5, s6, s7⟩ := nextL_mem hk (by omega) hpm
  have hrd : rd_T98 (rd_L5 (stepsT k N) (i : Int)) (j : Int) = toSM p := by
   rw [stepsT_rd hi]
   unfold rd_T98
   rw [Int.toNat_natCast, List.getD_eq_getElem?_getD, List.getElem?_map, hp]
   rfl
  have hdr : (nextL k (i : Nat)).drop j = p :: (nextL k (i : Nat)).drop (j + 1) := by
   rw [List.drop_eq_getElem_cons hjl]
   have : (nextL k (i : Nat))[j] = p := by rw [List.getElem?_eq_getElem hjl] at hp; exact Option.some.inj hp
   rw [this]
  refine Ev.step (f := fun f => _) (fun f => by simp only [spec_l4Measured.l3]; rfl) ?_
  refine ev_pos (by omega) (ev_pos (by rw [stepsT_len]; omega) (ev_pos (by rw [stepsT_rd hi, List.length_map]; omega) (ev_pos (by rw [rowU_len]; omega) ?_)))
  rw [rowU_rd hi]
  cases b with
  | true =>
   refine ev_pos rfl ?_
   rw [hw]
   simpa using h
  | false =>
   refine ev_neg (by simp) (ev_pos (by omega) ?_)
   rw [hrd, Int.toNat_natCast, hwj]
   simp only [toSM]
   rw [hdr, List.any_cons, Bool.false_or] at h
   by_cases q : p.2 = (t : Int)
   ·refine ev_pos q ?_
    rw [rowU_set _ hi]
    refine ih (j + 1) true (by omega) ?_
    have : hitM k t p = true := by
     unfold hitM
     rw [q, Int.toNat_natCast, Nat.sub_self, mB_zero]
     simp
    rw [this] at h
    simpa using h
   ·refine ev_neg q ?_
    by_cases q2 : p.2 < (t : Int)
    ·have hwd : wrap64 ((t : Int) - p.2) = (t : Int) - p.2 := wrap_big (by omega) (by omega)
     refine ev_pos q2 ?_
     simp only [toSM, hwd]
     have hrow : rd_L6 (measT k N (t - 1)) ((t : Int) - p.2) = rowM k N ((t : Int) - p.2).toNat := measT_rd (by omega) (by omega)
     refine ev_pos (by omega) (ev_pos (by rw [measT_len]; omega) (ev_pos s5 ?_))
     rw [hrow]
     refine ev_pos (by rw [rowM_len]; omega) ?_
     rw [rowM_rd s5 (by omega), rowU_set _ hi]
     refine ih (j + 1) _ (by omega) ?_
     have : hitM k t p = mB k ((t : Int) - p.2).toNat (sandX k p.1) := by
      unfold hitM
      rw [decide_eq_true (by omega), Bool.true_and, show t - p.2.toNat = ((t : Int) - p.2).toNat by omega]
     rw [this] at h
     exact h
    ·refine ev_neg q2 ?_
     rw [rowU_set _ hi]
     refine ih (j + 1) false (by omega) ?_
     have : hitM k t p = false := by
      unfold hitM
      rw [decide_eq_false (by omega), Bool.false_and]
     rw [this] at h
     exact h
theorem meas_l2 (t : Nat) (ht : 1 ≤ t) (htT : t ≤ T) (r : List (List Bool)) : ∀ (m i : Nat), i + m = N → Ev (fun f => spec_l4Measured.l1 f (T : Int) (N : Int) (stepsT k N) (measT k N t) ((t : Int) + 1)) r → Ev (fun f => spec_l4Measured.l2 f (T : Int) (N : Int) (stepsT k N) (measT k N (t - 1)) (t : Int) (rowU k N t i false) (i : Int)) r := by
 intro m
 induction m with
 | zero =>
  intro i hi h
  refine Ev.step (f := fun f => _) (fun f => by simp only [spec_l4Measured.l2]; rfl) ?_
  refine ev_neg (by omega) (ev_pos (by rw [measT_len]; omega) ?_)
  rw [wrap_big (by omega) (by omega), show i = N by omega, rowU_all]
  have := measT_succ k N (t - 1)
  rw [show t - 1 + 1 = t by omega] at this
  rw [← this]
  exact h
 | succ m ih =>
  intro i hi h
  refine Ev.step (f := fun f => _) (fun f => by simp only [spec_l4Measured.l2]; rfl) ?_
  refine ev_pos (by omega) ?_
  refine meas_l3 hk hN hN2 hT t i ht htT (by omega) r (nextL k (i : Nat)).length 0 false (by omega) ?_
  obtain ⟨t', rfl⟩ : ∃ t', t = t' + 1 := ⟨t - 1, by omega⟩
  rw [List.drop_zero, Bool.false_or, any_hit hk (by omega), rowU_next]
  have := ih (i + 1) (by omega) h
  exact this
theorem meas_l1 : ∀ (m t : Nat), t + m = T → Ev (fun f => spec_l4Measured.l1 f (T : Int) (N : Int) (stepsT k N) (measT k N t) ((t : Int) + 1)) (measT k N T) := by
 intro m
 induction m with
 | zero =>
  intro t h
  refine Ev.step (f := fun f => _) (fun f => by simp only [spec_l4Measured.l1]; rfl) ?_
  rw [show t = T by omega]
  exact ev_neg (by omega) (Ev.now _)
 | succ m ih =>
  intro t h
  refine Ev.step (f := fun f => _) (fun f => by simp only [spec_l4Measured.l1]; rfl) ?_
  refine ev_pos (by omega) (ev_pos (by omega) (ev_pos (by omega) ?_))
  have := meas_l2 hk hN hN2 hT (t + 1) (by omega) (by omega) (measT k N T) N 0 (by omega) (by
   have := ih (t + 1) (by omega)
   exact this)
  rw [rowU_zero] at this
  rw [Int.toNat_natCast]
  exact this
end
theorem stepsT_succ (k : Nat → Int) (i : Nat) : stepsT k (i + 1) = stepsT k i ++ [(nextL k (i : Nat)).map toSM] := by
 unfold stepsT
 rw [List.range_succ, List.map_append]
 rfl
theorem meas_l0 (a b c d : Int) (hk : isKitB (v4 a b c d) = true) {N T : Nat} (hN : (N : Int) = prodT (v4 a b c d)) (hN2 : N ≤ 3000) (hT : T ≤ 60) : ∀ (m i : Nat), i + m = N → Ev (fun f => spec_l4Measured.l0 f (T : Int) (N : Int) (stepsT (v4 a b c d) i) (i : Int) a b c d) (measT (v4 a b c d) N T) := by
 have hkb := kit_bounds hk
 intro m
 induction m with
 | zero =>
  intro i h
  refine Ev.step (f := fun f => _) (fun f => by simp only [spec_l4Measured.l0]; rfl) ?_
  refine ev_neg (by omega) (ev_pos (by omega) (ev_pos (by omega) ?_))
  rw [Int.toNat_natCast, show i = N by omega]
  exact meas_l1 hkb hN hN2 hT T 0 (by omega)
 | succ m ih =>
  intro i h
  have hs : xL4Sand.f a b c d (i : Int) = some ((sandAt (v4 a b c d) (i : Int)) 0, (sandAt (v4 a b c d) (i : Int)) 1, (sandAt (v4 a b c d) (i : Int)) 2, (sandAt (v4 a b c d) (i : Int)) 3) := by
   unfold xL4Sand.f
   rw [if_pos]
   rw [Bool.and_eq_true]
   refine ⟨?_, inB_iff.2 ⟨by omega, by omega⟩⟩
   unfold kitB30
   have := fun i hi => inB_iff.2 (hkb i hi)
   simp only [Bool.and_eq_true]
   exact ⟨⟨⟨this 0 (by omega), this 1 (by omega)⟩, this 2 (by omega)⟩, this 3 (by omega)⟩
  refine Ev.step (f := fun f => _) (fun f => by simp only [spec_l4Measured.l0]; rfl) ?_
  refine ev_pos (by omega) ?_
  refine ev_bind0 hs ?_
  refine Ev.bind (stepsM_ev a b c d hk (i : Int) (by omega)) ?_
  refine ev_pos (by rw [stepsT_len]; omega) ?_
  rw [show wrap64 ((i : Int) + 1) = ((i + 1 : Nat) : Int) by unfold wrap64; omega, ← stepsT_succ]
  exact ih (i + 1) (by omega)
theorem meas_ev (a b c d : Int) (hk : isKitB (v4 a b c d) = true) {N T : Nat} (hN : (N : Int) = prodT (v4 a b c d)) (hN2 : N ≤ 3000) (hT : T ≤ 60) : Ev (fun f => spec_l4Measured.f f a b c d (T : Int)) (measT (v4 a b c d) N T) := by
 have hp : xL4Many.f a b c d = some (N : Int) := by
  show some (prodOf (v4 a b c d)) = _
  rw [(prod_is (kit_bounds hk)).1, ← hN]
 refine Ev.congr (f := fun f => spec_l4Measured.l0 f (T : Int) (N : Int) [] 0 a b c d) (fun f => by unfold spec_l4Measured.f; rw [hp]; rfl) ?_
 exact meas_l0 a b c d hk hN hN2 hT N 0 (by omega)
end Go.Proofs.Ytlhodfjdmafapaa
end
section
namespace Go.Proofs.Ytlhodfjdmafapaa
open Go.RowKit Go.Maps Go.Proofs.YtlhodfjdmafapaaW.PrintWords Go.Proofs.YtlhodfjdmafapaaW.PrintLast Go.Proofs.YtlhodfjdmafapaaW.PrintMore
set_option linter.unusedVariables false
set_option linter.unusedSimpArgs false
def MM : MapKd Try.prog 22 Sd Int := mk4 (Value.int .i64) (fun a b e => by injection e)
theorem zeroI (w : World) : (zeroValue 3).run Try.prog w = .ok (.int .i64 0) w := by kernel_rfl
theorem zeroRows (w : World) : (zeroValue 43).run Try.prog w = .ok (.slice none 0 0) w := by kernel_rfl
theorem R_one (W : World) (base : Nat) (ok : Nat → Prop) (s : Sd) (hb : base ≤ W.heap.size) (hok : ok W.heap.size) : k4.R 22 (W.alloc (.cells #[.int .i64 s.1, .int .i64 s.2.1, .int .i64 s.2.2.1, .int .i64 s.2.2.2] 22)) base ok (.slice (some ⟨W.heap.size, 0, none⟩) 1 1) [s] := by
 refine ⟨fun j hj => ?_, [.int .i64 s.1, .int .i64 s.2.1, .int .i64 s.2.2.1, .int .i64 s.2.2.2], ?_, rfl, fun j p hp => ?_⟩
 ·have : W.heap.size = j := by simpa [Value.ownBlock] using hj
  rw [← this]; exact hok
 ·exact World.ownsRow_lit (base := base) (e := 22) (size := 4) W #[.int .i64 s.1, .int .i64 s.2.1, .int .i64 s.2.2.1, .int .i64 s.2.2.2] 1 hb (by decide) rfl
 ·cases j with
  | zero =>
   simp only [List.getElem?_cons_zero, Option.some.injEq] at hp
   subst hp
   exact k4_mkM _ _ _ _
  | succ j => simp at hp
theorem QL.start (w : World) (b base n : Nat) (ok : Nat → Prop) {v : Value} {s : Sd} {L : List (Int × Value)} (h : mkT.own w b n L) (hL : L = [(0, v)]) (hr : k4.R 22 w base ok v [s]) : QL mkT k4 22 w b base ok n (updQ (fun _ => []) 0 [s]) L := by
 subst hL
 refine ⟨h, fun p hp => ?_, fun x hx => ?_, List.pairwise_singleton _ _⟩
 ·rw [List.mem_singleton.1 hp]
  show k4.R _ _ _ _ v (updQ _ 0 _ 0)
  rw [updQ_same]; exact hr
 ·rw [getA_cons] at hx
  split at hx
  ·cases hx
  ·rename_i c
   exact updQ_ne _ _ (fun e => c (by simp [e]))
/-- what met leaves -/
def MetPost (k : Nat → Int) (w : World) (e : Ending) (w' : World) : Prop :=
 ∃ (b : Nat) (L : List (Sd × Int)), e = .returned (.map (some b)) ∧ w.heap.size ≤ b ∧ MM.own w' b L.length L ∧ Met k L ∧ Below w.heap.size w w'
/-- what all loops keep -/
structure MBase (k : Nat → Int) (w : World) (n1 : Nat) (sv : Value) (M : List (Sd × Int)) (wr : World) : Prop where
 out : MM.own wr (w.heap.size + 1) M.length M
 kit : wr.heap[w.heap.size]? = some (.cells #[.int .i64 (k 0), .int .i64 (k 1), .int .i64 (k 2), .int .i64 (k 3)] 27 (0, 0))
 sets : (Kd.int .i64).R 3 wr n1 (fun _ => True) sv (setsL k)
 below : Below w.heap.size w wr
section
variable {k : Nat → Int} {w wr w' : World} {n1 : Nat} {sv : Value} {M : List (Sd × Int)}
theorem MBase.step (h : MBase k w n1 sv M wr) (hb : Below wr.heap.size wr w') : MBase k w n1 sv M w' :=
 ⟨MapKd.own_below h.out hb, blk_below h.kit hb, Kd.R_below h.sets hb, below_chain h.below hb⟩
theorem MBase.app (h : MBase k w n1 sv M wr) {base : Nat} {ok : Nat → Prop} {u : Value} {xs : List Sd} (hR : k4.R 22 wr base ok u xs) (hw : w.heap.size ≤ base) (hg : wr.grownBy w' u.ownBlock) : MBase k w n1 sv M w' := by
 refine ⟨MapKd.own_kept h.out hg (fun e => ?_), blk_grown h.kit hg (Kd.R_ne hR h.kit (by decide)), Kd.R_over' h.sets (Kd.R_typed hR) (by decide) hg, h.below.grown hg h.below.size (fun q hq => Nat.le_trans hw (Kd.R_base hR q hq))⟩
 obtain ⟨cells, hc⟩ := Kd.R_typed hR _ e.symm
 obtain ⟨es, c, hm⟩ := MapKd.own_is h.out
 rw [hc] at hm; cases hm
theorem MBase.mp (h : MBase k w n1 sv M wr) {g : Nat} (hg : wr.grownBy w' (some g)) (hm : ∃ es c, wr.heap[g]? = some (.map es c)) (hne : w.heap.size + 1 < g) : MBase k w n1 sv M w' := by
 obtain ⟨es, c, hm⟩ := hm
 refine ⟨MapKd.own_kept h.out hg (fun e => by have := Option.some.inj e; omega), blk_grown h.kit hg (fun e => by have := Option.some.inj e; omega), Kd.R_grown2 h.sets rfl hg (fun q hq e => ?_), h.below.grown hg h.below.size (fun q hq => by have := Option.some.inj hq; omega)⟩
 have e1 : q = g := (Option.some.inj hq).symm
 obtain ⟨cells, hc⟩ := Kd.R_typed h.sets q e.symm
 rw [e1, hm] at hc; cases hc
theorem MBase.put (h : MBase k w n1 sv M wr) {x : Sd} {t : Int} (ho : MM.own w' (w.heap.size + 1) (M.length + 1) (putA M x t)) (hg : wr.grownBy w' (some (w.heap.size + 1))) : MBase k w n1 sv (putA M x t) w' := by
 obtain ⟨es, c, hm⟩ := MapKd.own_is h.out
 refine ⟨MapKd.own_tight ho, blk_grown h.kit hg (fun e => by have := Option.some.inj e; omega), Kd.R_grown2 h.sets rfl hg (fun q hq e => ?_), h.below.grown hg h.below.size (fun q hq => by have := Option.some.inj hq; omega)⟩
 have e1 : q = w.heap.size + 1 := (Option.some.inj hq).symm
 obtain ⟨cells, hc⟩ := Kd.R_typed h.sets q e.symm
 rw [e1, hm] at hc; cases hc
end
theorem calm_c (w : World) : Calls Try.prog 47 #[] w fun e w' => e = .returned (.agg #[.int .i64 0, .int .i64 0, .int .i64 0, .int .i64 0]) ∧ Below w.heap.size w w' := calm_any w
attribute [local go_sem] max2_int max_two
set_option maxRecDepth 100000 in
set_option maxHeartbeats 4000000 in
theorem met_any (k : Nat → Int) (hk : isKitB k = true) (w : World) : Calls Try.prog 48 #[A4 k] w (MetPost k w) := by
 have HKB := Aside0.mk (kit_bounds hk)
 clear hk
 have hmm := @run_makeMap Try.prog
 go_enter Try.func48, Try.ntmps48
 go_wp2_with fail
 refine (sets_any k _).mono ?_
 rintro e w1 ⟨v0, rfl, hR1, hb1⟩
 have HM0 := Aside0.mk (show MM.own w1 (w.heap.size + 1) 0 [] from by
  have := MapKd.own_below (MapKd.own_made MM (w.alloc (.cells #[.int .i64 (k 0), .int .i64 (k 1), .int .i64 (k 2), .int .i64 (k 3)] 27))) hb1
  simpa only [World.size_alloc] using this)
 have HK1 := Aside0.mk (show w1.heap[w.heap.size]? = some (.cells #[.int .i64 (k 0), .int .i64 (k 1), .int .i64 (k 2), .int .i64 (k 3)] 27 (0, 0)) from blk_below (blk_alloc (heap_alloc_new w _) _) hb1)
 have HB1 := Aside0.mk (show Below w.heap.size w w1 from below_chain (below_alloc (below_alloc (Below.refl _ _) _) _) hb1)
 have HZ1 := Aside0.mk (show w.heap.size + 1 + 1 ≤ w1.heap.size from by have := hb1.size; simpa using this)
 obtain ⟨n1, hn1, hR1⟩ := R_at hR1
 obtain ⟨A0, c0, rfl, hc0, hC0⟩ := Kd.R_reads hR1
 have HN1 := Aside0.mk (show w.heap.size + 1 + 1 = n1 by rw [hn1]; simp)
 have HC1 := Aside0.mk hR1
 clear hR1 hb1 hc0 hC0 hn1
 have hsl := setsL_len k
 go_wp2_with fail
 refine (calm_c _).mono ?_
 rintro e w2 ⟨rfl, hb2⟩
 have HB12 := Aside0.mk (show Below w1.heap.size w1 w2 from below_chain (below_alloc (Below.refl _ _) _) hb2)
 have HT0 := Aside0.mk (show mkT.own w2 w1.heap.size 0 [] from MapKd.own_below (MapKd.own_made mkT w1) hb2)
 have HL2 := Aside0.mk (show w1.heap.size < w2.heap.size from by have := hb2.size; simp only [World.size_alloc] at this; omega)
 clear hb2
 go_wp2_with (first | (refine wpList_insert_om _ mkT rfl _ _ _ 100 rfl 43 Try.underlying100 w1.heap.size 0 [] rfl (MapKd.own_alloc HT0.out _) (by unfold maxLen; omega) 0 _ rfl rfl ⟨by omega, by omega⟩ ?_; intro w3 hown3 hgrow3 hsz3) | fail)
 have HR3 := Aside0.mk (R_one w2 w.heap.size (fun _ => True) calm0 (by have := HL2.out; have := HZ1.out; omega) trivial)
 have HBA := Aside0.mk (show Below w1.heap.size w1 w3 from (below_alloc HB12.out _).grown hgrow3 (by have := HL2.out; simp; omega) (fun q hq => by cases hq; omega))
 have HQ3 := Aside0.mk (show QL mkT k4 22 w3 w1.heap.size w.heap.size (fun _ => True) 1 startQ _ from QL.start w3 _ _ _ _ hown3 rfl (R_only flat4 HR3.out (fun j hj => hgrow3.block j (Kd.R_lt HR3.out j hj) (fun e => by
  have e1 : w2.heap.size = j := by simpa [Value.ownBlock] using hj
  have e2 := Option.some.inj e
  have := HL2.out
  omega))))
 have HM3 := Aside0.mk (show MM.own w3 (w.heap.size + 1) ([] : List (Sd × Int)).length [] from MapKd.own_below HM0.out HBA.out)
 have HK3 := Aside0.mk (blk_below HK1.out HBA.out)
 have HC3 := Aside0.mk (Kd.R_below HC1.out HBA.out)
 have HB3 := Aside0.mk (below_chain HB1.out HBA.out)
 clear hown3 hgrow3 hsz3 HR3 HB12 HT0 HM0 HK1 HC1 HB1 HN1
 clear hR1
 have HW3 := Aside0.mk (show MBase k w n1 (.slice A0 (setsL k).length c0) [] w3 from ⟨HM3.out, HK3.out, HC3.out, HB3.out⟩)
 have HBQ := Aside0.mk (show w.heap.size + 1 < w1.heap.size from by have := HZ1.out; omega)
 clear HM3 HK3 HC3 HB3 HBA HL2 HZ1
 obtain ⟨sv, hsv⟩ : ∃ sv, sv = Value.slice A0 (setsL k).length c0 := ⟨_, rfl⟩
 go_loopw [6, 7] (fun v6 v7 wr => ∃ (T last : Int) (M : List (Sd × Int)) (Q : Int → List Sd) (n : Nat) (L : List (Int × Value)), v6 = .int .i64 T ∧ v7 = .int .i64 last ∧ Aside0 (MInv k M Q T last 0 calm0 []) ∧ Aside0 (n ≤ 1 + 16 * M.length) ∧ Aside0 (MBase k w n1 (.slice A0 (setsL k).length c0) M wr) ∧ Aside0 (QL mkT k4 22 wr w1.heap.size w.heap.size (fun _ => True) n Q L)) (fun v6 _ _ => 27705632 - (intOf v6).toNat)
 case atStart => exact ⟨0, 0, [], startQ, 1, _, rfl, rfl, ⟨MInv.start k⟩, ⟨by simp⟩, HW3, HQ3⟩
 case round =>
  obtain ⟨T, last, M, Q, n, L, rfl, rfl, HI, HN, HW, HQ⟩ := hrel
  obtain ⟨wo, rfl⟩ : ∃ wo : World, wo = wr := ⟨_, rfl⟩
  have hlen := few31 HKB.out HI.out.nd HI.out.reach
  have hT0 : 0 ≤ T := HI.out.t0
  have hl0 : 0 ≤ last := HI.out.l0
  have hlB : last ≤ 27705630 := by have := HI.out.lastB; omega
  clear hlen
  by_cases c : T ≤ last
  ·have c1 : decide (T ≤ last) = true := decide_eq_true c
   obtain ⟨v, hv⟩ : ∃ v, (getA L T).getD (.slice none 0 0) = v := ⟨_, rfl⟩
   have hR := HQ.out.at hv
   obtain ⟨A, cp, rfl, _, _⟩ := Kd.R_reads hR
   have HV := Aside0.mk hv
   clear hv hR
   go_wp2_with (first | (at_lookup; refine wpList_lookup_q _ mkT k4 (fun _ => rfl) rfl _ _ 100 rfl 43 22 Try.underlying100 (zeroRows _) w1.heap.size w.heap.size n (fun _ => True) Q L rfl HQ.out T rfl ⟨hT0, by omega⟩ _ HV.out ?_) | fail)
   have HI0 := Aside0.mk (show ((0 : Nat) ≤ (Q T).length) from Nat.zero_le _)
   have hl2 : (Q T).length ≤ 20000000 := by
    have h1 := HI.out.len T
    have h2 := few31 HKB.out HI.out.nd HI.out.reach
    simp only [List.length_nil] at h1
    omega
   go_loopw [34, 7] (fun v34 v7 wr => ∃ (i : Nat) (last : Int) (M : List (Sd × Int)) (Q' : Int → List Sd) (n : Nat) (L : List (Int × Value)), v34 = .int .i64 i ∧ v7 = .int .i64 last ∧ Aside0 (MInv k M Q' T last i calm0 []) ∧ Aside0 (T ≤ last) ∧ Aside0 (n ≤ 1 + 16 * M.length) ∧ Aside0 (MBase k w n1 (.slice A0 (setsL k).length c0) M wr) ∧ Aside0 (QL mkT k4 22 wr w1.heap.size w.heap.size (fun _ => True) n Q' L) ∧ Aside0 ((getA L T).getD (.slice none 0 0) = .slice A (Q T).length cp) ∧ Aside0 (i ≤ (Q T).length)) (fun v34 _ _ => (Q T).length - (intOf v34).toNat)
   case atStart => exact ⟨0, last, M, Q, n, L, rfl, rfl, HI, ⟨c⟩, HN, HW, HQ, HV, HI0⟩
   case round =>
    clear HI HN HW HQ HV HI0 hl0 hlB c c1
    obtain ⟨i, last, M, Q', n, L, rfl, rfl, HI, HTL, HN, HW, HQ, HV, HIL⟩ := hrel
    obtain ⟨wz, rfl⟩ : ∃ wz : World, wz = wr := ⟨_, rfl⟩
    have hlen := few31 HKB.out HI.out.nd HI.out.reach
    have hlB : last ≤ 27705630 := by have := HI.out.lastB; omega
    have hTL := HTL.out
    have hnl : n ≤ 20000000 := by have := HN.out; omega
    clear hlen
    have hR := HQ.out.at HV.out
    obtain ⟨hl0, _, hC⟩ := Kd.R_reads' hR
    have HLEN := Aside0.mk hl0
    have hiL := HIL.out
    clear hR
    by_cases c : i < (Q T).length
    ·have c1 : decide (i < (Q T).length) = true := decide_eq_true c
     have c2 : decide ((i : Int) < ((Q T).length : Int)) = true := decide_eq_true (by omega)
     obtain ⟨⟨s0, s1, s2, s3⟩, hs⟩ : ∃ s, (Q' T)[i]? = some s := ⟨_, List.getElem?_eq_getElem (by omega)⟩
     obtain ⟨ad, e1, h0, h1, h2, h3⟩ := at_k4 hC i _ hs
     subst e1
     have HS := Aside0.mk hs
     have HRE := Aside0.mk (HI.out.queue T _ (List.mem_of_getElem? hs))
     have HSD := Aside0.mk (HRE.out.sand HKB.out).1
     have HGS := Aside0.mk (sand_good HSD.out)
     clear hs hC hl0
     cases hg : getA M (s0, s1, s2, s3) with
     | some t0 =>
      have HG := Aside0.mk hg
      clear hg
      go_wp2_with (first | (at_lookup; refine wpList_lookup_ok_some _ MM rfl _ _ 55 rfl 3 Try.underlying55 0 (zeroI _) (w.heap.size + 1) M.length M rfl (MapKd.own_below HW.out.out (by repeat (first | exact Below.refl _ _ | apply below_alloc | apply pw_below_drewN))) (s0, s1, s2, s3) rfl HGS.out t0 HG.out (.int .i64 t0) rfl ?_) | fail)
      have BA := below_alloc (Below.refl wz.heap.size wz) (.cells #[.int .i64 s0, .int .i64 s1, .int .i64 s2, .int .i64 s3] 22 (0, 0))
      exact ⟨⟨i + 1, last, M, Q', n, L, by go_num, rfl, ⟨HI.out.skip HS.out (getA_some HG.out)⟩, HTL, HN, ⟨HW.out.step BA⟩, ⟨HQ.out.below BA⟩, HV, ⟨by omega⟩⟩, by simp only [intOf]; omega⟩
     | none =>
      have HG := Aside0.mk hg
      clear hg
      have HML := Aside0.mk (show M.length < maxLen from by have := few31 HKB.out HI.out.nd HI.out.reach; unfold maxLen; omega)
      go_wp2_with (first | (at_lookup; refine wpList_lookup_ok_none _ MM rfl _ _ 55 rfl 3 Try.underlying55 0 (zeroI _) (w.heap.size + 1) M.length M rfl (MapKd.own_below HW.out.out (by repeat (first | exact Below.refl _ _ | apply below_alloc | apply pw_below_drewN))) (s0, s1, s2, s3) rfl HGS.out HG.out (.int .i64 0) rfl ?_) | (at_mapUpdate; refine wpList_update_om _ MM rfl _ _ _ 55 rfl 3 Try.underlying55 (w.heap.size + 1) M.length M rfl (MapKd.own_below HW.out.out (by repeat (first | exact Below.refl _ _ | apply below_alloc | apply pw_below_drewN))) HML.out (s0, s1, s2, s3) T rfl rfl HGS.out ?_; intro w5 hown5 hgrow5 hsz5) | fail)
      have BA := below_alloc (Below.refl wz.heap.size wz) (.cells #[.int .i64 s0, .int .i64 s1, .int .i64 s2, .int .i64 s3] 22 (0, 0))
      have HW5 := Aside0.mk ((HW.out.step BA).put hown5 hgrow5)
      have HQ5 := Aside0.mk ((((HQ.out.fence wz.heap.size (Nat.le_refl _)).below BA)).map hgrow5 (by have := HBQ.out; omega) (MapKd.own_is (HW.out.step BA).out))
      have HX5 := Aside0.mk (blk_grown (heap_alloc_new wz (.cells #[.int .i64 s0, .int .i64 s1, .int .i64 s2, .int .i64 s3] 22 (0, 0))) hgrow5 (fun e => by have := MapKd.own_lt HW.out.out; have := Option.some.inj e; omega))
      have HI5 := Aside0.mk (HI.out.settle hTL HS.out HG.out)
      have HN5 := Aside0.mk (show n + ((setsL k).length - 0) ≤ 1 + 16 * (putA M (s0, s1, s2, s3) T).length from by
       rw [putA_absent HG.out, List.length_cons]
       have := HN.out
       omega)
      have hzb : w.heap.size < wz.heap.size := by have := MapKd.own_lt HW.out.out; omega
      have HZB := Aside0.mk hzb
      have HZQ := Aside0.mk (show w1.heap.size < wz.heap.size from HQ.out.lt)
      clear hown5 hgrow5 hsz5 BA HW HQ HI HN HG h0 h1 h2 h3
      obtain ⟨M1, hM1⟩ : ∃ M1, M1 = putA M (s0, s1, s2, s3) T := ⟨_, rfl⟩
      rw [← hM1] at HW5 HI5 HN5
      have HSZ := Aside0.mk (show ((setsL k).drop 0 = setsL k) from List.drop_zero)
      go_loopw [50, 7] (fun v50 v7 wr => ∃ (j : Nat) (last : Int) (Q' : Int → List Sd) (n : Nat) (L : List (Int × Value)), v50 = .int .i64 j ∧ v7 = .int .i64 last ∧ Aside0 (MInv k M1 Q' T last (i + 1) (s0, s1, s2, s3) ((setsL k).drop j)) ∧ Aside0 (T ≤ last) ∧ Aside0 (n + ((setsL k).length - j) ≤ 1 + 16 * M1.length) ∧ Aside0 (MBase k w n1 (.slice A0 (setsL k).length c0) M1 wr) ∧ Aside0 (QL mkT k4 22 wr w1.heap.size w.heap.size (fun b => True ∧ b ≠ wz.heap.size) n Q' L) ∧ Aside0 ((getA L T).getD (.slice none 0 0) = .slice (some ad) (Q T).length cp) ∧ Aside0 (wr.heap[wz.heap.size]? = some (.cells #[.int .i64 s0, .int .i64 s1, .int .i64 s2, .int .i64 s3] 22 (0, 0))) ∧ Aside0 (j ≤ (setsL k).length)) (fun v50 _ _ => (setsL k).length - (intOf v50).toNat)
      case atStart => exact ⟨0, last, Q', n, L, rfl, rfl, ⟨by rw [HSZ.out]; exact HI5.out⟩, HTL, HN5, HW5, HQ5, HV, HX5, ⟨Nat.zero_le _⟩⟩
      case round =>
       clear HI5 HTL HN5 HW5 HQ5 HV HX5 hnl hlB hTL
       obtain ⟨j, last, Q', n, L, rfl, rfl, HI, HTL, HN, HW, HQ, HV, HX, HJ⟩ := hrel
       obtain ⟨wy, rfl⟩ : ∃ wy : World, wy = wr := ⟨_, rfl⟩
       have hjl := HJ.out
       by_cases cj : j < (setsL k).length
       ·have cj0 : decide (j < (setsL k).length) = true := decide_eq_true cj
        have cj1 : decide ((j : Int) < ((setsL k).length : Int)) = true := decide_eq_true (by omega)
        obtain ⟨set, hset⟩ : ∃ set, (setsL k)[j]? = some set := ⟨_, List.getElem?_eq_getElem cj⟩
        have hmem := setsL_mem (List.mem_of_getElem? hset)
        have hdrop : (setsL k).drop j = set :: (setsL k).drop (j + 1) := by
         rw [List.drop_eq_getElem_cons cj]
         congr 1
         rw [List.getElem?_eq_getElem cj] at hset
         exact Option.some.inj hset
        have HI' := Aside0.mk (hdrop ▸ HI.out : MInv k M1 Q' T last (i + 1) (s0, s1, s2, s3) (set :: (setsL k).drop (j + 1)))
        obtain ⟨at1, e1, ht1⟩ := Kd.at_int (Kd.R_reads' HW.out.sets).2.2 (j : Int) (by omega) (by omega)
        cases e1
        rw [show rd (setsL k) (j : Int) = set by simp [rd, List.getD_eq_getElem?_getD, hset], show ((j : Int)).toNat = j from Int.toNat_natCast j] at ht1
        have hd := HSD.out.stepD set
        have hsn := HSD.out.step set
        have hgd := sand_good (sand_tup hsn)
        obtain ⟨d, hdd⟩ : ∃ d, stepD k (fn4 (s0, s1, s2, s3)) set = d := ⟨_, rfl⟩
        obtain ⟨t0, ht0⟩ : ∃ t, stepS k (fn4 (s0, s1, s2, s3)) set 0 = t := ⟨_, rfl⟩
        obtain ⟨t1, ht1'⟩ : ∃ t, stepS k (fn4 (s0, s1, s2, s3)) set 1 = t := ⟨_, rfl⟩
        obtain ⟨t2, ht2⟩ : ∃ t, stepS k (fn4 (s0, s1, s2, s3)) set 2 = t := ⟨_, rfl⟩
        obtain ⟨t3, ht3⟩ : ∃ t, stepS k (fn4 (s0, s1, s2, s3)) set 3 = t := ⟨_, rfl⟩
        have HSt : ∀ W : World, Calls Try.prog 66 #[A4 k, .agg #[.int .i64 s0, .int .i64 s1, .int .i64 s2, .int .i64 s3], .int .i64 set] W fun e w' => e = .returned (.tuple #[.agg #[.int .i64 t0, .int .i64 t1, .int .i64 t2, .int .i64 t3], .int .i64 d]) ∧ Below W.heap.size W w' := by
         intro W
         have := step_any k (fn4 (s0, s1, s2, s3)) set HSD.out W
         rw [hdd] at this
         simp only [A4, ht0, ht1', ht2, ht3] at this
         exact this
        rw [hdd] at hd
        have HGO := Aside0.mk (show goS k (s0, s1, s2, s3) set = (t0, t1, t2, t3) from by rw [← ht0, ← ht1', ← ht2, ← ht3]; rfl)
        have HGD := Aside0.mk (show goD k (s0, s1, s2, s3) set = d from hdd)
        have HG4 := Aside0.mk (show good4 (t0, t1, t2, t3) from by rw [← ht0, ← ht1', ← ht2, ← ht3]; exact hgd)
        have b8 : 0 ≤ d := hd.1
        have b9 : d ≤ 30 := hd.2
        have hlen := few31 HKB.out HI.out.nd HI.out.reach
        have hlB : last ≤ 27705630 := by have := HI.out.lastB; omega
        have hTL := HTL.out
        have hnl : n ≤ 20000000 := by have := HN.out; omega
        clear hlen hset hmem hdrop hd hsn hgd hdd ht0 ht1' ht2 ht3 HI
        have q0 : wy.cell? ⟨w.heap.size, 0, none⟩ = some (.int .i64 (k 0)) := (blk_cell HW.out.kit 0).trans rfl
        have q1 : wy.cell? ⟨w.heap.size, 1, none⟩ = some (.int .i64 (k 1)) := (blk_cell HW.out.kit 1).trans rfl
        have q2 : wy.cell? ⟨w.heap.size, 2, none⟩ = some (.int .i64 (k 2)) := (blk_cell HW.out.kit 2).trans rfl
        have q3 : wy.cell? ⟨w.heap.size, 3, none⟩ = some (.int .i64 (k 3)) := (blk_cell HW.out.kit 3).trans rfl
        have r0 : wy.cell? ⟨wz.heap.size, 0, none⟩ = some (.int .i64 s0) := (blk_cell HX.out 0).trans rfl
        have r1 : wy.cell? ⟨wz.heap.size, 1, none⟩ = some (.int .i64 s1) := (blk_cell HX.out 1).trans rfl
        have r2 : wy.cell? ⟨wz.heap.size, 2, none⟩ = some (.int .i64 s2) := (blk_cell HX.out 2).trans rfl
        have r3 : wy.cell? ⟨wz.heap.size, 3, none⟩ = some (.int .i64 s3) := (blk_cell HX.out 3).trans rfl
        go_wp2_with fail
        refine (HSt _).mono ?_
        rintro e w5 ⟨rfl, hb5⟩
        have HB5 := Aside0.mk hb5
        clear hb5 q0 q1 q2 q3 r0 r1 r2 r3 ht1
        have HOW := Aside0.mk (show ∀ W : World, Below w5.heap.size w5 W → MM.own W (w.heap.size + 1) M1.length M1 from fun W hb => MapKd.own_below (MapKd.own_below HW.out.out HB5.out) hb)
        by_cases cz : 0 < d
        ·have cz0 : decide (0 < d) = true := decide_eq_true cz
         cases hg : getA M1 (t0, t1, t2, t3) with
         | some u0 =>
          have HG := Aside0.mk hg
          clear hg
          have HDR := Aside0.mk (HI'.out.drop (.inr ⟨u0, by rw [HGO.out]; exact getA_some HG.out⟩))
          go_wp2_with (first | (at_lookup; refine wpList_lookup_ok_some _ MM rfl _ _ 55 rfl 3 Try.underlying55 0 (zeroI _) (w.heap.size + 1) M1.length M1 rfl (HOW.out _ (by repeat (first | exact Below.refl _ _ | apply below_alloc | apply pw_below_drewN))) (t0, t1, t2, t3) rfl HG4.out u0 HG.out (.int .i64 u0) rfl ?_) | fail)
          have BA : Below wy.heap.size wy _ := below_alloc HB5.out (.cells #[.int .i64 t0, .int .i64 t1, .int .i64 t2, .int .i64 t3] 22 (0, 0))
          exact ⟨⟨j + 1, last, Q', n, L, by go_num, rfl, HDR, HTL, ⟨by have := HN.out; omega⟩, ⟨HW.out.step BA⟩, ⟨HQ.out.below BA⟩, HV, ⟨blk_below HX.out BA⟩, ⟨by omega⟩⟩, by simp only [intOf]; omega⟩
         | none =>
          have HG := Aside0.mk hg
          clear hg
          have HPU := Aside0.mk (HI'.out.push (by rw [HGD.out]; exact cz) (by rw [HGD.out]; exact b9))
          rw [HGD.out, HGO.out] at HPU
          have BA : Below wy.heap.size wy (w5.alloc (.cells #[.int .i64 t0, .int .i64 t1, .int .i64 t2, .int .i64 t3] 22 (0, 0))) := below_alloc HB5.out _
          obtain ⟨u, hu⟩ : ∃ u, (getA L (T + d)).getD (.slice none 0 0) = u := ⟨_, rfl⟩
          have HU := Aside0.mk hu
          have HQW := Aside0.mk (HQ.out.below BA)
          have HRU := Aside0.mk (HQW.out.at hu)
          have HWW := Aside0.mk (HW.out.step BA)
          have HXW := Aside0.mk (blk_below HX.out BA)
          have HSW := Aside0.mk (show w.heap.size ≤ (w5.alloc (.cells #[.int .i64 t0, .int .i64 t1, .int .i64 t2, .int .i64 t3] 22 (0, 0))).heap.size ∧ wz.heap.size < (w5.alloc (.cells #[.int .i64 t0, .int .i64 t1, .int .i64 t2, .int .i64 t3] 22 (0, 0))).heap.size from ⟨HWW.out.below.size, blk_lt HXW.out⟩)
          have HLQ := Aside0.mk (show ((Q' (T + d)).length + 1) * 32 ≤ 140737488355328 from by
           have h1 := HI'.out.len (T + d)
           have h2 := few31 HKB.out HI'.out.nd HI'.out.reach
           simp only [List.length_cons] at h1
           omega)
          have b10 : 0 ≤ T + d := by omega
          have b11 : T + d ≤ 27705660 := by omega
          clear hu BA
          go_wp2_with (first | (at_lookup; refine wpList_lookup_ok_none _ MM rfl _ _ 55 rfl 3 Try.underlying55 0 (zeroI _) (w.heap.size + 1) M1.length M1 rfl (HOW.out _ (by repeat (first | exact Below.refl _ _ | apply below_alloc | apply pw_below_drewN))) (t0, t1, t2, t3) rfl HG4.out HG.out (.int .i64 0) rfl ?_) | (at_lookup; refine wpList_lookup_q _ mkT k4 (fun _ => rfl) rfl _ _ 100 rfl 43 22 Try.underlying100 (zeroRows _) w1.heap.size w.heap.size n _ Q' L rfl HQW.out (T + d) rfl ⟨b10, by omega⟩ u HU.out ?_) | (at_builtin; refine Kd.R_append k4 (w0 := w) w.heap.size rfl (.tmp 81) (.tmp 83) 43 22 (.agg #[(.int .i64 0), (.int .i64 0), (.int .i64 0), (.int .i64 0)]) 32 rfl Try.underlying43 info4q rfl (by decide) (by decide) u (Q' (T + d)) (t0, t1, t2, t3) [.int .i64 t0, .int .i64 t1, .int .i64 t2, .int .i64 t3] _ (fun _ => False) rfl (by first | (go_simp; done) | (go_simp; rfl)) (k4_mkM _ _ _ _) (fun _ h => h.elim) (fun q hq => ⟨trivial, by have := HSW.out.2; omega⟩) HRU.out HWW.out.below HSW.out.1 HLQ.out ?_; intro v4 w4 hO4 hB4 hg4 hat4) | (at_mapUpdate; refine wpList_update_q _ mkT k4 flat4 (fun _ => rfl) rfl _ _ _ 100 rfl 43 22 Try.underlying100 w1.heap.size w.heap.size n _ Q' (updQ Q' (T + d) (Q' (T + d) ++ [(t0, t1, t2, t3)])) rfl HQW.out HU.out hg4 hat4 (by rw [updQ_same]; exact hO4) (fun y hy => updQ_ne _ _ hy) (by unfold maxLen; omega) rfl rfl ⟨b10, by omega⟩ ?_; intro w6 hq6 hg6 hs6) | fail)
          have hub := HQW.out.row_ne HU.out
          have hown4 := MapKd.own_kept HQW.out.own hg4 (Ne.symm hub)
          have HMX := Aside0.mk (show (if last < T + d then T + d else last) = max last (T + d) from by split <;> omega)
          rw [HMX.out]
          refine ⟨⟨j + 1, max last (T + d), updQ Q' (T + d) (Q' (T + d) ++ [(t0, t1, t2, t3)]), n + 1, _, by go_num, rfl, HPU, ⟨by omega⟩, ⟨by have := HN.out; omega⟩, ⟨(HWW.out.app HRU.out (Nat.le_refl _) hg4).mp hg6 (MapKd.own_is hown4) HBQ.out⟩, ⟨hq6⟩, ⟨?_⟩, ⟨blk_grown (blk_grown HXW.out hg4 (fun e => (HRU.out.1 _ e.symm).2 rfl)) hg6 (fun e => by have := HZQ.out; have := Option.some.inj e; omega)⟩, ⟨by omega⟩⟩, by simp only [intOf]; omega⟩
          rw [getA_put, if_neg (by omega)]
          exact HV.out
        ·have cz0 : decide (0 < d) = false := decide_eq_false cz
         have HDR := Aside0.mk (HI'.out.drop (.inl (by rw [HGD.out]; omega)))
         cases hg : getA M1 (t0, t1, t2, t3) with
         | some u0 =>
          have HG := Aside0.mk hg
          clear hg
          go_wp2_with (first | (at_lookup; refine wpList_lookup_ok_some _ MM rfl _ _ 55 rfl 3 Try.underlying55 0 (zeroI _) (w.heap.size + 1) M1.length M1 rfl (HOW.out _ (by repeat (first | exact Below.refl _ _ | apply below_alloc | apply pw_below_drewN))) (t0, t1, t2, t3) rfl HG4.out u0 HG.out (.int .i64 u0) rfl ?_) | fail)
          have BA : Below wy.heap.size wy _ := below_alloc HB5.out (.cells #[.int .i64 t0, .int .i64 t1, .int .i64 t2, .int .i64 t3] 22 (0, 0))
          exact ⟨⟨j + 1, last, Q', n, L, by go_num, rfl, HDR, HTL, ⟨by have := HN.out; omega⟩, ⟨HW.out.step BA⟩, ⟨HQ.out.below BA⟩, HV, ⟨blk_below HX.out BA⟩, ⟨by omega⟩⟩, by simp only [intOf]; omega⟩
         | none =>
          have HG := Aside0.mk hg
          clear hg
          go_wp2_with (first | (at_lookup; refine wpList_lookup_ok_none _ MM rfl _ _ 55 rfl 3 Try.underlying55 0 (zeroI _) (w.heap.size + 1) M1.length M1 rfl (HOW.out _ (by repeat (first | exact Below.refl _ _ | apply below_alloc | apply pw_below_drewN))) (t0, t1, t2, t3) rfl HG4.out HG.out (.int .i64 0) rfl ?_) | fail)
          have BA : Below wy.heap.size wy _ := below_alloc HB5.out (.cells #[.int .i64 t0, .int .i64 t1, .int .i64 t2, .int .i64 t3] 22 (0, 0))
          exact ⟨⟨j + 1, last, Q', n, L, by go_num, rfl, HDR, HTL, ⟨by have := HN.out; omega⟩, ⟨HW.out.step BA⟩, ⟨HQ.out.below BA⟩, HV, ⟨blk_below HX.out BA⟩, ⟨by omega⟩⟩, by simp only [intOf]; omega⟩
       ·have cj0 : decide (j < (setsL k).length) = false := decide_eq_false cj
        have cj1 : decide ((j : Int) < ((setsL k).length : Int)) = false := decide_eq_false (by omega)
        have HE := Aside0.mk (show (setsL k).drop j = [] from List.drop_eq_nil_of_le (by omega))
        go_wp2_with fail
        exact ⟨⟨i + 1, last, M1, Q', n, L, by go_num, rfl, ⟨(show MInv k M1 Q' T last (i + 1) (s0, s1, s2, s3) [] from HE.out ▸ HI.out).any calm0⟩, HTL, ⟨by have := HN.out; omega⟩, HW, ⟨HQ.out.free (fun _ _ => trivial)⟩, HV, ⟨by omega⟩⟩, by simp only [intOf]; omega⟩
    ·have c1 : decide (i < (Q T).length) = false := decide_eq_false c
     have c2 : decide ((i : Int) < ((Q T).length : Int)) = false := decide_eq_false (by omega)
     clear hC hl0
     go_wp2_with (first | (at_delete; refine wpList_delete_q _ mkT k4 flat4 rfl _ _ 100 rfl 43 22 Try.underlying100 w1.heap.size w.heap.size n (fun _ => True) Q' (updQ Q' T []) rfl HQ.out T rfl ⟨hT0, by omega⟩ (fun y hy => updQ_ne _ _ hy) (updQ_same _ _ _) ?_; intro w6 hq6 hg6 hs6) | fail)
     exact ⟨⟨T + 1, last, M, updQ Q' T [], n, delA L T, by go_num, rfl, ⟨HI.out.tick (by have := HLEN.out; omega)⟩, HN, ⟨HW.out.mp hg6 HQ.out.is HBQ.out⟩, ⟨hq6⟩⟩, by simp only [intOf]; omega⟩
  ·have c1 : decide (T ≤ last) = false := decide_eq_false c
   have HM := Aside0.mk (HI.out.met (by omega))
   go_wp2_with fail
   go_ret
   exact ⟨w.heap.size + 1, M, rfl, by omega, HW.out.out, HM.out, HW.out.below⟩
end Go.Proofs.Ytlhodfjdmafapaa
end
section
namespace Go.Proofs.Ytlhodfjdmafapaa
open Go.RowKit Go.Proofs.YtlhodfjdmafapaaW.PrintWords Go.Proofs.YtlhodfjdmafapaaW.PrintLast Go.Proofs.Ytlhodfjdmafapaa.QMs
set_option linter.unusedVariables false
set_option linter.unusedSimpArgs false
theorem sandB_of {k s : Nat → Int} (h : Sand k s) : isSandB k s = true := by
 simp only [isSandB, Bool.and_eq_true, inB_iff]
 exact ⟨⟨⟨⟨h.lo 0 (by omega), h.hi 0 (by omega)⟩, ⟨h.lo 1 (by omega), h.hi 1 (by omega)⟩⟩, ⟨h.lo 2 (by omega), h.hi 2 (by omega)⟩⟩, ⟨h.lo 3 (by omega), h.hi 3 (by omega)⟩⟩
def toS (p : Int × Int) : S98 := ⟨p.1, p.2⟩
/-- the steps from a sand, for some of the sets -/
def stepsL (k : Nat → Int) (x : Sd) (l : List Int) : List (Int × Int) := (l.filter fun set => decide (0 < goD k x set)).map fun set => (idn k (goS k x set), goD k x set)
theorem steps_l0 (a b c d : Int) (hk : isKitB (v4 a b c d) = true) (x0 x1 x2 x3 : Int) (hx : Sand (v4 a b c d) (fn4 (x0, x1, x2, x3))) : ∀ (m i : Nat) (acc : List S98), i + m = 16 → acc.length ≤ i → spec_l4Next.l0 (m + 1) acc (i : Int) a b c d x0 x1 x2 x3 = some (acc ++ (stepsL (v4 a b c d) (x0, x1, x2, x3) (((List.range' i m).map fun (j : Nat) => (j : Int)).filter (isSetB (v4 a b c d)))).map toS)
 | 0, i, acc, h, ha => by
  simp only [spec_l4Next.l0]
  rw [if_neg (by omega)]
  simp [stepsL]
 | m + 1, i, acc, h, ha => by
  have hs : xL2Set.f a b c d (i : Int) = some (isSetB (v4 a b c d) (i : Int)) := rfl
  have hw : wrap64 ((i : Int) + 1) = ((i + 1 : Nat) : Int) := by unfold wrap64; omega
  rw [spec_l4Next.l0, if_pos (by omega), hs, Option.bind_some]
  cases hb : isSetB (v4 a b c d) (i : Int)
  ·rw [if_neg (by simp), hw, steps_l0 a b c d hk x0 x1 x2 x3 hx m (i + 1) acc (by omega) (by omega)]
   simp [List.range'_succ, hb]
  ·rw [if_pos rfl]
   have ht : xL2Step.f a b c d x0 x1 x2 x3 (i : Int) = some ((stepS (v4 a b c d) (fn4 (x0, x1, x2, x3)) i) 0, (stepS (v4 a b c d) (fn4 (x0, x1, x2, x3)) i) 1, (stepS (v4 a b c d) (fn4 (x0, x1, x2, x3)) i) 2, (stepS (v4 a b c d) (fn4 (x0, x1, x2, x3)) i) 3, stepD (v4 a b c d) (fn4 (x0, x1, x2, x3)) i) := by
    unfold xL2Step.f
    have : (isKitB (v4 a b c d) && isSandB (v4 a b c d) (v4 x0 x1 x2 x3)) = true := by rw [hk, show isSandB (v4 a b c d) (v4 x0 x1 x2 x3) = true from sandB_of hx]; rfl
    rw [if_pos this]
    rfl
   rw [ht, Option.bind_some]
   simp only []
   have hd : stepD (v4 a b c d) (fn4 (x0, x1, x2, x3)) i = goD (v4 a b c d) (x0, x1, x2, x3) i := rfl
   rw [hd]
   by_cases q : 0 < goD (v4 a b c d) (x0, x1, x2, x3) i
   ·rw [if_pos q]
    have hi : xL4Id.f a b c d (stepS (v4 a b c d) (fn4 (x0, x1, x2, x3)) i 0) (stepS (v4 a b c d) (fn4 (x0, x1, x2, x3)) i 1) (stepS (v4 a b c d) (fn4 (x0, x1, x2, x3)) i 2) (stepS (v4 a b c d) (fn4 (x0, x1, x2, x3)) i 3) = some (idn (v4 a b c d) (goS (v4 a b c d) (x0, x1, x2, x3) i)) := rfl
    rw [hi, Option.bind_some, if_pos (by omega), hw, steps_l0 a b c d hk x0 x1 x2 x3 hx m (i + 1) _ (by omega) (by simp; omega)]
    simp [List.range'_succ, hb, stepsL, q, toS]
   ·rw [if_neg q, hw, steps_l0 a b c d hk x0 x1 x2 x3 hx m (i + 1) acc (by omega) (by omega)]
    simp [List.range'_succ, hb, stepsL, q]
theorem steps_any (a b c d : Int) (hk : isKitB (v4 a b c d) = true) (id : Int) (h0 : 0 ≤ id) (w : World) : Calls Try.prog 78 #[A4 (v4 a b c d), A4 (sandAt (v4 a b c d) id)] w fun e w' => ∃ v0 : Value, e = .returned v0 ∧ Kd.R k98 98 w' w.heap.size (fun _ => True) v0 ((nextL (v4 a b c d) id).map toS) ∧ Below w.heap.size w w' := by
 have hx := sandX_sand (kit_bounds hk) (id := id) h0
 have := steps_l0 a b c d hk _ _ _ _ hx 16 0 [] (by omega) (by simp)
 refine spec_l4Next.calls 17 a b c d _ _ _ _ ((nextL (v4 a b c d) id).map toS) w ?_
 unfold spec_l4Next.f
 rw [show (0 : Int) = ((0 : Nat) : Int) from rfl, this, List.nil_append]
 rfl
theorem nextL_v4 (k : Nat → Int) (id : Int) : nextL (v4 (k 0) (k 1) (k 2) (k 3)) id = nextL k id := rfl
theorem steps_c (k : Nat → Int) (hk : isKitB k = true) (id : Int) (h0 : 0 ≤ id) (w : World) : Calls Try.prog 78 #[A4 k, A4 (sandAt k id)] w fun e w' => ∃ v0 : Value, e = .returned v0 ∧ Kd.R k98 98 w' w.heap.size (fun _ => True) v0 ((nextL k id).map toS) ∧ Below w.heap.size w w' := by
 have := steps_any (k 0) (k 1) (k 2) (k 3) (show isKitB (v4 (k 0) (k 1) (k 2) (k 3)) = true from hk) id h0 w
 rw [nextL_v4] at this
 exact this
end Go.Proofs.Ytlhodfjdmafapaa
end
