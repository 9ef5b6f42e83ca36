/- Contracts of functions, written by a program of this repo out of the translation. No statement of the seat is proved here. -/
import Derived.Test.YtlhodfjdmafapaaQAll0
import Derived.Test.YtlhodfjdmafapaaQAll1
import Derived.Test.YtlhodfjdmafapaaMExt
import Derived.Test.YtlhodfjdmafapaaMTell
namespace Go.Proofs.Ytlhodfjdmafapaa.QAll
open Go.RowKit Go.Proofs.YtlhodfjdmafapaaW.PrintWords Go.Proofs.YtlhodfjdmafapaaW.PrintLast Go.Proofs.YtlhodfjdmafapaaW.PrintMore
attribute [local go_sem] max2_int min2_int max_two min_two max_three min_three max_four min_four   -- for this text's walks alone
set_option linter.unusedVariables false
set_option linter.unusedSimpArgs false

/-! ### spec_l3Next: function 71 -/
mutual
def spec_l3Next.l0 : Nat → List (S83) → Int → Bool → List (S83) → List Int → Int → Int → Int → Int → Int → Option ((List (S83)))
  | 0, _, _, _, _, _, _, _, _, _, _ => none
  | k + 1, x1, x2, x3, x9, x10, x11, x107000, x107001, x107002, x107003 => if x11 < (x1.length : Int) then (spec_l3Next.l1 k x1 x2 x3 x9 x10 x11 0 x107000 x107001 x107002 x107003) else (some x9)
def spec_l3Next.l1 : Nat → List (S83) → Int → Bool → List (S83) → List Int → Int → Int → Int → Int → Int → Int → Option ((List (S83)))
  | 0, _, _, _, _, _, _, _, _, _, _, _ => none
  | k + 1, x1, x2, x3, x9, x10, x11, x12, x107000, x107001, x107002, x107003 => if x12 < 16 then (if 0 ≤ x11 then (if x11 < (x1.length : Int) then ((xL2All.f x107000 x107001 x107002 x107003).bind fun t115 => ((xL2Step.f x107000 x107001 x107002 x107003 ((rd_T83 x1 x11).f1.f0) ((rd_T83 x1 x11).f1.f1) ((rd_T83 x1 x11).f1.f2) ((rd_T83 x1 x11).f1.f3) (Go.bits .and .i64 x12 t115)).bind fun bt116 => ((xL2Set.f x107000 x107001 x107002 x107003 x12).bind fun t124 => (if t124 = true then (if bt116.2.2.2.2 = 0 then (spec_l3Next.j2 k x1 x2 x3 x9 x10 x11 x12 (wrap64 (((rd_T83 x1 x11).f0) + bt116.2.2.2.2)) ((rd_T83 x1 x11).f2) true x107000 x107001 x107002 x107003 bt116.1 bt116.2.1 bt116.2.2.1 bt116.2.2.2.1) else (spec_l3Next.j2 k x1 x2 x3 x9 x10 x11 x12 (wrap64 (((rd_T83 x1 x11).f0) + bt116.2.2.2.2)) ((rd_T83 x1 x11).f2) (decide ((wrap64 (((rd_T83 x1 x11).f0) + bt116.2.2.2.2)) > x2)) x107000 x107001 x107002 x107003 bt116.1 bt116.2.1 bt116.2.2.1 bt116.2.2.2.1)) else (spec_l3Next.j2 k x1 x2 x3 x9 x10 x11 x12 (wrap64 (((rd_T83 x1 x11).f0) + bt116.2.2.2.2)) ((rd_T83 x1 x11).f2) true x107000 x107001 x107002 x107003 bt116.1 bt116.2.1 bt116.2.2.1 bt116.2.2.2.1))))) else (none)) else (none)) else (spec_l3Next.l0 k x1 x2 x3 x9 x10 (wrap64 (x11 + 1)) x107000 x107001 x107002 x107003)
def spec_l3Next.j2 : Nat → List (S83) → Int → Bool → List (S83) → List Int → Int → Int → Int → Int → Bool → Int → Int → Int → Int → Int → Int → Int → Int → Option ((List (S83)))
  | 0, _, _, _, _, _, _, _, _, _, _, _, _, _, _, _, _, _, _ => none
  | k + 1, x1, x2, x3, x9, x10, x11, x12, x15, x16, x73, x107000, x107001, x107002, x107003, x122000, x122001, x122002, x122003 => if x73 = true then (spec_l3Next.l1 k x1 x2 x3 x9 x10 x11 (wrap64 (x12 + 1)) x107000 x107001 x107002 x107003) else (if x3 = true then ((spec_l3Bits.f k x12).bind fun t125 => (spec_l3Next.j3 k x1 x2 x3 x9 x10 x11 x12 x15 (wrap64 (x16 + t125)) x107000 x107001 x107002 x107003 x122000 x122001 x122002 x122003)) else (spec_l3Next.j3 k x1 x2 x3 x9 x10 x11 x12 x15 x16 x107000 x107001 x107002 x107003 x122000 x122001 x122002 x122003))
def spec_l3Next.j3 : Nat → List (S83) → Int → Bool → List (S83) → List Int → Int → Int → Int → Int → Int → Int → Int → Int → Int → Int → Int → Int → Option ((List (S83)))
  | 0, _, _, _, _, _, _, _, _, _, _, _, _, _, _, _, _, _ => none
  | k + 1, x1, x2, x3, x9, x10, x11, x12, x15, x16, x107000, x107001, x107002, x107003, x122000, x122001, x122002, x122003 => (xL3Id.f x107000 x107001 x107002 x107003 x15 x122000 x122001 x122002 x122003).bind fun t126 => (if 0 ≤ t126 then (if t126 < (x10.length : Int) then (if (rd x10 t126) = 0 then (if x9.length < 2932031007402 then ((some (x9 ++ [(⟨x15, (⟨x122000, x122001, x122002, x122003⟩ : S22), x16⟩ : S83)] : List (S83))).bind fun y128 => (spec_l3Next.l1 k x1 x2 x3 y128 (x10.set (t126 : Int).toNat (y128.length : Int)) x11 (wrap64 (x12 + 1)) x107000 x107001 x107002 x107003)) else (none)) else (if x3 = true then (if 0 ≤ (wrap64 ((rd x10 t126) - 1)) then (if (wrap64 ((rd x10 t126) - 1)) < (x9.length : Int) then ((spec_l1Least.f ((rd_T83 x9 (wrap64 ((rd x10 t126) - 1))).f2) x16).bind fun t135 => (spec_l3Next.l1 k x1 x2 x3 (x9.set ((wrap64 ((rd x10 t126) - 1)) : Int).toNat (⟨(rd_T83 x9 (wrap64 ((rd x10 t126) - 1))).f0, (⟨(rd_T83 x9 (wrap64 ((rd x10 t126) - 1))).f1.f0, (rd_T83 x9 (wrap64 ((rd x10 t126) - 1))).f1.f1, (rd_T83 x9 (wrap64 ((rd x10 t126) - 1))).f1.f2, (rd_T83 x9 (wrap64 ((rd x10 t126) - 1))).f1.f3⟩ : S22), t135⟩ : S83)) x10 x11 (wrap64 (x12 + 1)) x107000 x107001 x107002 x107003)) else (none)) else (none)) else (if 0 ≤ (wrap64 ((rd x10 t126) - 1)) then (if (wrap64 ((rd x10 t126) - 1)) < (x9.length : Int) then (spec_l3Next.l1 k x1 x2 x3 (x9.set ((wrap64 ((rd x10 t126) - 1)) : Int).toNat (⟨(rd_T83 x9 (wrap64 ((rd x10 t126) - 1))).f0, (⟨(rd_T83 x9 (wrap64 ((rd x10 t126) - 1))).f1.f0, (rd_T83 x9 (wrap64 ((rd x10 t126) - 1))).f1.f1, (rd_T83 x9 (wrap64 ((rd x10 t126) - 1))).f1.f2, (rd_T83 x9 (wrap64 ((rd x10 t126) - 1))).f1.f3⟩ : S22), wrap64 (((rd_T83 x9 (wrap64 ((rd x10 t126) - 1))).f2) + x16)⟩ : S83)) x10 x11 (wrap64 (x12 + 1)) x107000 x107001 x107002 x107003) else (none)) else (none)))) else (none)) else (none))
end
def spec_l3Next.f (k : Nat) (a0_0 : Int) (a0_1 : Int) (a0_2 : Int) (a0_3 : Int) (l1 : List (S83)) (a2 : Int) (a3 : Bool) : Option ((List (S83))) := (xL3Many.f a0_0 a0_1 a0_2 a0_3).bind fun t110 => (if 0 ≤ (wrap64 ((wrap64 (a2 + 1)) * t110)) then (if (wrap64 ((wrap64 (a2 + 1)) * t110) : Int).toNat ≤ 35184372088832 then (spec_l3Next.l0 k l1 a2 a3 (([] : List (S83))) (List.replicate (wrap64 ((wrap64 (a2 + 1)) * t110) : Int).toNat 0) 0 a0_0 a0_1 a0_2 a0_3) else (none)) else (none))
theorem spec_l3Next.mono_l : ∀ k, (∀ y0 y1 y2 y3 y4 y5 y6 y7 y8 y9, LeO (spec_l3Next.l0 k y0 y1 y2 y3 y4 y5 y6 y7 y8 y9) (spec_l3Next.l0 (k + 1) y0 y1 y2 y3 y4 y5 y6 y7 y8 y9)) ∧ (∀ y0 y1 y2 y3 y4 y5 y6 y7 y8 y9 y10, LeO (spec_l3Next.l1 k y0 y1 y2 y3 y4 y5 y6 y7 y8 y9 y10) (spec_l3Next.l1 (k + 1) y0 y1 y2 y3 y4 y5 y6 y7 y8 y9 y10)) ∧ (∀ y0 y1 y2 y3 y4 y5 y6 y7 y8 y9 y10 y11 y12 y13 y14 y15 y16 y17, LeO (spec_l3Next.j2 k y0 y1 y2 y3 y4 y5 y6 y7 y8 y9 y10 y11 y12 y13 y14 y15 y16 y17) (spec_l3Next.j2 (k + 1) y0 y1 y2 y3 y4 y5 y6 y7 y8 y9 y10 y11 y12 y13 y14 y15 y16 y17)) ∧ (∀ y0 y1 y2 y3 y4 y5 y6 y7 y8 y9 y10 y11 y12 y13 y14 y15 y16, LeO (spec_l3Next.j3 k y0 y1 y2 y3 y4 y5 y6 y7 y8 y9 y10 y11 y12 y13 y14 y15 y16) (spec_l3Next.j3 (k + 1) y0 y1 y2 y3 y4 y5 y6 y7 y8 y9 y10 y11 y12 y13 y14 y15 y16))
  | 0 => ⟨fun _ _ _ _ _ _ _ _ _ _ r h => by simp [spec_l3Next.l0] at h, fun _ _ _ _ _ _ _ _ _ _ _ r h => by simp [spec_l3Next.l1] at h, fun _ _ _ _ _ _ _ _ _ _ _ _ _ _ _ _ _ _ r h => by simp [spec_l3Next.j2] at h, fun _ _ _ _ _ _ _ _ _ _ _ _ _ _ _ _ _ r h => by simp [spec_l3Next.j3] at h⟩
  | k + 1 => by
    obtain ⟨ih0, ih1, ih2, ih3⟩ := spec_l3Next.mono_l k
    refine ⟨?_, ?_, ?_, ?_⟩
    · intro y0 y1 y2 y3 y4 y5 y6 y7 y8 y9
      unfold spec_l3Next.l0
      repeat' first
      | (with_reducible exact ih0 _ _ _ _ _ _ _ _ _ _)
      | (with_reducible exact ih1 _ _ _ _ _ _ _ _ _ _ _)
      | (with_reducible exact ih2 _ _ _ _ _ _ _ _ _ _ _ _ _ _ _ _ _ _)
      | (with_reducible exact ih3 _ _ _ _ _ _ _ _ _ _ _ _ _ _ _ _ _)
      | (with_reducible exact spec_l3Bits.mono _ _)
      | (with_reducible exact LeO.refl _)
      | (with_reducible exact LeO.none _)
      | (with_reducible refine LeO.ite ?_ ?_)
      | (with_reducible refine LeO.bind ?_ (fun _ => ?_))
      | exact ih0 _ _ _ _ _ _ _ _ _ _
      | exact ih1 _ _ _ _ _ _ _ _ _ _ _
      | exact ih2 _ _ _ _ _ _ _ _ _ _ _ _ _ _ _ _ _ _
      | exact ih3 _ _ _ _ _ _ _ _ _ _ _ _ _ _ _ _ _
      | exact spec_l3Bits.mono _ _
      | exact LeO.none _
      | refine LeO.ite ?_ ?_
      | refine LeO.bind ?_ (fun _ => ?_)
    · intro y0 y1 y2 y3 y4 y5 y6 y7 y8 y9 y10
      unfold spec_l3Next.l1
      repeat' first
      | (with_reducible exact ih0 _ _ _ _ _ _ _ _ _ _)
      | (with_reducible exact ih1 _ _ _ _ _ _ _ _ _ _ _)
      | (with_reducible exact ih2 _ _ _ _ _ _ _ _ _ _ _ _ _ _ _ _ _ _)
      | (with_reducible exact ih3 _ _ _ _ _ _ _ _ _ _ _ _ _ _ _ _ _)
      | (with_reducible exact spec_l3Bits.mono _ _)
      | (with_reducible exact LeO.refl _)
      | (with_reducible exact LeO.none _)
      | (with_reducible refine LeO.ite ?_ ?_)
      | (with_reducible refine LeO.bind ?_ (fun _ => ?_))
      | exact ih0 _ _ _ _ _ _ _ _ _ _
      | exact ih1 _ _ _ _ _ _ _ _ _ _ _
      | exact ih2 _ _ _ _ _ _ _ _ _ _ _ _ _ _ _ _ _ _
      | exact ih3 _ _ _ _ _ _ _ _ _ _ _ _ _ _ _ _ _
      | exact spec_l3Bits.mono _ _
      | exact LeO.none _
      | refine LeO.ite ?_ ?_
      | refine LeO.bind ?_ (fun _ => ?_)
    · intro y0 y1 y2 y3 y4 y5 y6 y7 y8 y9 y10 y11 y12 y13 y14 y15 y16 y17
      unfold spec_l3Next.j2
      repeat' first
      | (with_reducible exact ih0 _ _ _ _ _ _ _ _ _ _)
      | (with_reducible exact ih1 _ _ _ _ _ _ _ _ _ _ _)
      | (with_reducible exact ih2 _ _ _ _ _ _ _ _ _ _ _ _ _ _ _ _ _ _)
      | (with_reducible exact ih3 _ _ _ _ _ _ _ _ _ _ _ _ _ _ _ _ _)
      | (with_reducible exact spec_l3Bits.mono _ _)
      | (with_reducible exact LeO.refl _)
      | (with_reducible exact LeO.none _)
      | (with_reducible refine LeO.ite ?_ ?_)
      | (with_reducible refine LeO.bind ?_ (fun _ => ?_))
      | exact ih0 _ _ _ _ _ _ _ _ _ _
      | exact ih1 _ _ _ _ _ _ _ _ _ _ _
      | exact ih2 _ _ _ _ _ _ _ _ _ _ _ _ _ _ _ _ _ _
      | exact ih3 _ _ _ _ _ _ _ _ _ _ _ _ _ _ _ _ _
      | exact spec_l3Bits.mono _ _
      | exact LeO.none _
      | refine LeO.ite ?_ ?_
      | refine LeO.bind ?_ (fun _ => ?_)
    · intro y0 y1 y2 y3 y4 y5 y6 y7 y8 y9 y10 y11 y12 y13 y14 y15 y16
      unfold spec_l3Next.j3
      repeat' first
      | (with_reducible exact ih0 _ _ _ _ _ _ _ _ _ _)
      | (with_reducible exact ih1 _ _ _ _ _ _ _ _ _ _ _)
      | (with_reducible exact ih2 _ _ _ _ _ _ _ _ _ _ _ _ _ _ _ _ _ _)
      | (with_reducible exact ih3 _ _ _ _ _ _ _ _ _ _ _ _ _ _ _ _ _)
      | (with_reducible exact spec_l3Bits.mono _ _)
      | (with_reducible exact LeO.refl _)
      | (with_reducible exact LeO.none _)
      | (with_reducible refine LeO.ite ?_ ?_)
      | (with_reducible refine LeO.bind ?_ (fun _ => ?_))
      | exact ih0 _ _ _ _ _ _ _ _ _ _
      | exact ih1 _ _ _ _ _ _ _ _ _ _ _
      | exact ih2 _ _ _ _ _ _ _ _ _ _ _ _ _ _ _ _ _ _
      | exact ih3 _ _ _ _ _ _ _ _ _ _ _ _ _ _ _ _ _
      | exact spec_l3Bits.mono _ _
      | exact LeO.none _
      | refine LeO.ite ?_ ?_
      | refine LeO.bind ?_ (fun _ => ?_)
theorem spec_l3Next.mono : ∀ a0 a1 a2 a3 a4 a5 a6 k, LeO (spec_l3Next.f k a0 a1 a2 a3 a4 a5 a6) (spec_l3Next.f (k + 1) a0 a1 a2 a3 a4 a5 a6) := by
  intro a0 a1 a2 a3 a4 a5 a6 k
  obtain ⟨ih0, ih1, ih2, ih3⟩ := spec_l3Next.mono_l k
  unfold spec_l3Next.f
  repeat' first
      | (with_reducible exact ih0 _ _ _ _ _ _ _ _ _ _)
      | (with_reducible exact ih1 _ _ _ _ _ _ _ _ _ _ _)
      | (with_reducible exact ih2 _ _ _ _ _ _ _ _ _ _ _ _ _ _ _ _ _ _)
      | (with_reducible exact ih3 _ _ _ _ _ _ _ _ _ _ _ _ _ _ _ _ _)
      | (with_reducible exact spec_l3Bits.mono _ _)
      | (with_reducible exact LeO.refl _)
      | (with_reducible exact LeO.none _)
      | (with_reducible refine LeO.ite ?_ ?_)
      | (with_reducible refine LeO.bind ?_ (fun _ => ?_))
      | exact ih0 _ _ _ _ _ _ _ _ _ _
      | exact ih1 _ _ _ _ _ _ _ _ _ _ _
      | exact ih2 _ _ _ _ _ _ _ _ _ _ _ _ _ _ _ _ _ _
      | exact ih3 _ _ _ _ _ _ _ _ _ _ _ _ _ _ _ _ _
      | exact spec_l3Bits.mono _ _
      | exact LeO.none _
      | refine LeO.ite ?_ ?_
      | refine LeO.bind ?_ (fun _ => ?_)
def spec_l3Next.T1 : Bool × List (List Nat × List Nat) := (true, [([], []), ([], []), ([1], [1]), ([], []), ([3], [3]), ([2, 4], [2, 4]), ([5, 5], [5]), ([0, 4, 0], [0]), ([6, 7, 0, 1, 2, 3, 4, 5, 6, 7], [6])])
def spec_l3Next.B1 : List Nat := [0, 0, 2, 0, 8, 30, 62, 25, 255]
theorem spec_l3Next.tab1 : rtab .any (opsOf Try.f71 1) = spec_l3Next.T1 := by kernel_rfl
theorem spec_l3Next.bits1 : waitsOk spec_l3Next.T1.2 spec_l3Next.B1 = true := by kernel_rfl
def spec_l3Next.T8 : Bool × List (List Nat × List Nat) := (true, [([], []), ([], []), ([], []), ([1, 2], [1, 2]), ([3], [3]), ([4], [4]), ([], []), ([], []), ([7], [7]), ([6, 8], [6, 8]), ([0, 5, 9, 8], [0, 5, 9]), ([10], [10]), ([11], [11]), ([11], [11]), ([], []), ([14, 12, 10, 0, 1, 2, 3, 4, 5, 6, 7, 8, 9, 10, 11, 12, 14], [12, 14]), ([13, 15, 0, 1, 2, 3, 4, 5, 6, 7, 8, 9, 10, 11, 12, 13, 14, 15], [13])])
def spec_l3Next.B8 : List Nat := [0, 0, 0, 6, 14, 30, 0, 0, 128, 448, 1023, 2047, 4095, 4095, 0, 24575, 65535]
theorem spec_l3Next.tab8 : rtab .any (opsOf Try.f71 8) = spec_l3Next.T8 := by kernel_rfl
theorem spec_l3Next.bits8 : waitsOk spec_l3Next.T8.2 spec_l3Next.B8 = true := by kernel_rfl
def spec_l3Next.T9 : Bool × List (List Nat × List Nat) := (true, [([], []), ([], []), ([0, 1], [0, 1]), ([2], [2]), ([3], [3]), ([], []), ([4, 5], [4, 5]), ([], []), ([], []), ([7, 8], [7, 8]), ([9], [9]), ([10], [10]), ([6, 0, 1, 2, 3, 4, 5, 6], [6]), ([11, 12, 0, 1, 2, 3, 4, 5, 6, 7, 8, 9, 10, 11, 12], [11])])
def spec_l3Next.B9 : List Nat := [0, 0, 3, 7, 15, 0, 63, 0, 0, 384, 896, 1920, 127, 8191]
theorem spec_l3Next.tab9 : rtab .any (opsOf Try.f71 9) = spec_l3Next.T9 := by kernel_rfl
theorem spec_l3Next.bits9 : waitsOk spec_l3Next.T9.2 spec_l3Next.B9 = true := by kernel_rfl
def spec_l3Next.T14 : Bool × List (List Nat × List Nat) := (true, [([], []), ([], []), ([], []), ([1, 2], [1, 2]), ([3], [3]), ([4], [4]), ([], []), ([], []), ([], []), ([7, 8], [7, 8]), ([9], [9]), ([10], [10]), ([6, 11], [6, 11]), ([12], [12]), ([13], [13]), ([], []), ([14, 15], [14, 15]), ([0, 5, 0, 1, 2, 3, 4, 5, 6, 7, 8, 9, 10, 11, 12, 13, 14, 15, 16], [0, 5]), ([17, 0, 1, 2, 3, 4, 5, 6, 7, 8, 9, 10, 11, 12, 13, 14, 15, 16], [17]), ([18, 16, 0, 1, 2, 3, 4, 5, 6, 7, 8, 9, 10, 11, 12, 13, 14, 15, 16], [16, 18])])
def spec_l3Next.B14 : List Nat := [0, 0, 0, 6, 14, 30, 0, 0, 0, 384, 896, 1920, 4032, 8128, 16320, 0, 65472, 131071, 262143, 524287]
theorem spec_l3Next.tab14 : rtab .any (opsOf Try.f71 14) = spec_l3Next.T14 := by kernel_rfl
theorem spec_l3Next.bits14 : waitsOk spec_l3Next.T14.2 spec_l3Next.B14 = true := by kernel_rfl
def spec_l3Next.T19 : Bool × List (List Nat × List Nat) := (true, [([], []), ([], []), ([], []), ([1, 2], [1, 2]), ([3], [3]), ([4], [4]), ([], []), ([], []), ([], []), ([7, 8], [7, 8]), ([9], [9]), ([10], [10]), ([6, 11], [6, 11]), ([12], [12]), ([13], [13]), ([], []), ([14, 15], [14, 15]), ([0, 5, 0, 1, 2, 3, 4, 5, 6, 7, 8, 9, 10, 11, 12, 13, 14, 15, 16], [0, 5]), ([17, 0, 1, 2, 3, 4, 5, 6, 7, 8, 9, 10, 11, 12, 13, 14, 15, 16], [17]), ([18, 16, 16, 0, 1, 2, 3, 4, 5, 6, 7, 8, 9, 10, 11, 12, 13, 14, 15, 16], [16, 18])])
def spec_l3Next.B19 : List Nat := [0, 0, 0, 6, 14, 30, 0, 0, 0, 384, 896, 1920, 4032, 8128, 16320, 0, 65472, 131071, 262143, 524287]
theorem spec_l3Next.tab19 : rtab .any (opsOf Try.f71 19) = spec_l3Next.T19 := by kernel_rfl
theorem spec_l3Next.bits19 : waitsOk spec_l3Next.T19.2 spec_l3Next.B19 = true := by kernel_rfl
set_option maxHeartbeats 8000000 in
set_option maxRecDepth 100000 in
theorem spec_l3Next.calls (k : Nat) (a0_0 : Int) (a0_1 : Int) (a0_2 : Int) (a0_3 : Int) (A1 : Option Addr) (c1 : Nat) (l1 : List (S83)) (a2 : Int) (a3 : Bool) (r : List (S83)) (w : World) (hr1 : Kd.C k83 w A1 l1.length l1) (hc1 : l1.length ≤ c1) (h : spec_l3Next.f k a0_0 a0_1 a0_2 a0_3 l1 a2 a3 = some r) :
    Calls Try.prog 71 #[.agg #[.int .i64 a0_0, .int .i64 a0_1, .int .i64 a0_2, .int .i64 a0_3], .slice A1 l1.length c1, .int .i64 a2, .bool a3] w fun e w' => ∃ v0_ : Value, e = .returned (v0_) ∧ Kd.R k83 83 w' w.heap.size (fun _ => True) v0_ r ∧ Below w.heap.size w w' := by
  have hu27 := Try.underlying27
  have hu22 := Try.underlying22
  have hu83 := Try.underlying83
  have HR1 := Aside0.mk hr1
  have HC1 := Aside0.mk hc1
  clear hr1 hc1
  have HB := Aside0.mk (Below.refl w.heap.size w)
  have H : ((xL3Many.f a0_0 a0_1 a0_2 a0_3).bind fun t110 => (if 0 ≤ (wrap64 ((wrap64 (a2 + 1)) * t110)) then (if (wrap64 ((wrap64 (a2 + 1)) * t110) : Int).toNat ≤ 35184372088832 then (spec_l3Next.l0 k l1 a2 a3 (([] : List (S83))) (List.replicate (wrap64 ((wrap64 (a2 + 1)) * t110) : Int).toNat 0) 0 a0_0 a0_1 a0_2 a0_3) else (none)) else (none))) = some r := h
  clear h
  obtain ⟨y107, hy107⟩ : ∃ y_ : List (S83), y_ = (([] : List (S83))) := ⟨_, rfl⟩
  replace H : ((xL3Many.f a0_0 a0_1 a0_2 a0_3).bind fun t110 => (if 0 ≤ (wrap64 ((wrap64 (a2 + 1)) * t110)) then (if (wrap64 ((wrap64 (a2 + 1)) * t110) : Int).toNat ≤ 35184372088832 then (spec_l3Next.l0 k l1 a2 a3 y107 (List.replicate (wrap64 ((wrap64 (a2 + 1)) * t110) : Int).toNat 0) 0 a0_0 a0_1 a0_2 a0_3) else (none)) else (none))) = some r := by first | (rw [hy107]; with_reducible exact H) | (have H2_ := (Option.bind_some _ _).symm.trans H; rw [hy107]; with_reducible exact H2_) | (have H2_ := (Option.bind_some _ _).symm.trans H; with_reducible exact H2_) | with_reducible exact H | (rw [hy107]; exact H) | exact H
  have Ny107 := Aside0.mk hy107
  clear hy107
  replace H := Option.bind_eq_some_iff.mp H
  obtain ⟨t110, A50, H⟩ := H
  replace H : (if 0 ≤ (wrap64 ((wrap64 (a2 + 1)) * t110)) then (if (wrap64 ((wrap64 (a2 + 1)) * t110) : Int).toNat ≤ 35184372088832 then (spec_l3Next.l0 k l1 a2 a3 y107 (List.replicate (wrap64 ((wrap64 (a2 + 1)) * t110) : Int).toNat 0) 0 a0_0 a0_1 a0_2 a0_3) else (none)) else (none)) = some r := H
  have A5 := Aside0.mk A50
  clear A50
  obtain ⟨ji6, hji6⟩ : ∃ j_ : Int, (wrap64 ((wrap64 (a2 + 1)) * t110)) = j_ := ⟨_, rfl⟩
  replace H : (if 0 ≤ (ji6) then (if (ji6 : Int).toNat ≤ 35184372088832 then (spec_l3Next.l0 k l1 a2 a3 y107 (List.replicate (ji6 : Int).toNat 0) 0 a0_0 a0_1 a0_2 a0_3) else (none)) else (none)) = some r := by first | (rw [hji6] at H; exact H) | (simp only [hji6] at H ⊢; exact H)
  (try rw [hji6] at A5)
  have hji6w : (IntKind.i64.wrap ((wrap64 (a2 + 1)) * t110)) = ji6 := (i64_w _).trans hji6
  by_cases c7 : 0 ≤ (ji6)
  · rw [if_pos c7] at H
    have c7b0 := eq_true c7
    have c7b1 : decide (0 ≤ (ji6)) = true := decide_eq_true c7
    clear c7
    by_cases c8 : (ji6 : Int).toNat ≤ 35184372088832
    · rw [if_pos c8] at H
      have c8b0 := eq_true c8
      have c8b1 : decide ((ji6 : Int).toNat ≤ 35184372088832) = true := decide_eq_true c8
      clear c8
      obtain ⟨y111, hy111⟩ : ∃ y_ : List Int, y_ = (List.replicate (ji6 : Int).toNat 0) := ⟨_, rfl⟩
      replace H : (spec_l3Next.l0 k l1 a2 a3 y107 y111 0 a0_0 a0_1 a0_2 a0_3) = some r := by first | (rw [hy111]; with_reducible exact H) | (have H2_ := (Option.bind_some _ _).symm.trans H; rw [hy111]; with_reducible exact H2_) | (have H2_ := (Option.bind_some _ _).symm.trans H; with_reducible exact H2_) | with_reducible exact H | (rw [hy111]; exact H) | exact H
      have Ny111 := Aside0.mk hy111
      clear hy111
      have H' := Aside0.mk H
      clear H
      go_enter Try.func71, Try.ntmps71
      try go_wp2_with (first | ((with_reducible refine gate_dst (N := 4) rfl ?_); refine box_event ?hg (N := 4) ?hd (cs := #[.int .i64 a0_0, .int .i64 a0_1, .int .i64 a0_2, .int .i64 a0_3]) (t := 27) ?hr ?_; (case hd => rfl); (case hg => rfl); (case hr => first | (go_simp; done) | (go_simp; rfl)); intro gb106 hg w9 hbox hb; have n0_ := Aside0.mk (below_step (by repeat (first | (with_reducible first | exact HB.out | apply below_alloc | apply pw_below_drewN | apply below_drew1) | exact HB.out)) hb); have n1_ := Aside0.mk (hbox); have n2_ := Aside0.mk ((by rw [hg]; exact (below_size (by repeat (first | (with_reducible first | exact HB.out | apply below_alloc | apply pw_below_drewN | apply below_drew1) | exact HB.out))) : w.heap.size ≤ gb106)); have n3_ := Aside0.mk ((by rw [hg]; exact (below_size (by repeat (first | (with_reducible first | exact HB.out | apply below_alloc | apply pw_below_drewN | apply below_drew1) | exact HB.out))) : w.heap.size ≤ gb106)); clear HB; have HB := n0_; have BK106 := n1_; have GW106 := n2_; have GE106 := n3_; clear n0_ n1_ n2_ n3_; clear hb hbox hg))
      have n0_ := Aside0.mk (blk_drew BK106.out)
      have n1_ := Aside0.mk (below_drew1 HB.out)
      clear BK106
      clear HB
      have BK106 := n0_
      have HB := n1_
      clear n0_ n1_
      refine start_ (n := 9) (S := fun w' => True) (ds := []) #[false, false, false, false, false, false, false, false, false] (by kernel_rfl) rfl rfl trivial (fun hHeld => ?_); refine with_tabW spec_l3Next.tab1 spec_l3Next.bits1 (fun HT_ HW_ => ?_)
      generalize w9.drew = w10 at BK106 HB hHeld ⊢
      refine pure_ (i := 1) (N := some 19) (v := ?_) (a' := ?_) #[false, true, false, false, false, false, false, false, false] rfl rfl (any_of HT_.out (by kernel_rfl)) (fun _ _ _ h => h) (Or.inl ⟨by rfl, ?_⟩) ?_ ?_
      rotate_left
      · intro w'
        go_simp
        with_reducible rfl
      rotate_left
      · simp only [Act.put, List.setIfInBounds_toArray, List.set_cons_zero, List.set_cons_succ, i64_w, i32_w]
        rfl
      refine inv_at [0, 2, 3, 4, 5, 6, 7, 8] (fun a0_ b a w' => ∃ (v108 : Value) (v112 : Value) (m7_ : Value) (m8_ : Value), a = putSel a0_ b [(0, 18, v108), (2, 20, .int .i64 (wrap64 (a2 + 1))), (3, 21, .agg #[.int .i64 a0_0, .int .i64 a0_1, .int .i64 a0_2, .int .i64 a0_3]), (4, 22, .int .i64 t110), (5, 23, .int .i64 ji6), (6, 24, v112), (7, 9, m7_), (8, 10, m8_)] ∧ (w'.heap[gb106]? = some (.cells #[.int .i64 a0_0, .int .i64 a0_1, .int .i64 a0_2, .int .i64 a0_3] 27 (0, 0))) ∧ (Below w.heap.size w w') ∧ (b 0 = true → Kd.R k83 83 w' w.heap.size (fun _ => True) v108 y107) ∧ (b 6 = true → Kd.R (Kd.int .i64) 3 w' w.heap.size (fun _ => True) v112 y111) ∧ (b 7 = true → (m7_ : Value) = v108) ∧ (b 8 = true → (m8_ : Value) = v112)) HT_.out HW_.out (by kernel_rfl) (by kernel_rfl) ?_ ?_ ?_
      · exact ⟨.bool false, .bool false, .bool false, .bool false, by simp only [putSel, Bool.false_eq_true, if_false], BK106.out, HB.out, fun h_ => absurd h_ (by decide), fun h_ => absurd h_ (by decide), fun h_ => absurd h_ (by decide), fun h_ => absurd h_ (by decide)⟩
      · skip
        clear BK106 HB
        refine steps_cons ?_ ?_
        · rintro b a w' ⟨v108, v112, m7_, m8_, ha, Q_BK106, Q_HB, Q_HO109, Q_HO113, Q_X7_, Q_X8_⟩ hb_ hon hoff
          refine ⟨_, rfl, fun K hK => ?_⟩
          replace ha := Aside0.mk ha
          have BK106 := Aside0.mk Q_BK106
          have HB := Aside0.mk Q_HB
          refine Kd.R_lit_step k83 _ 83 ?hg (N := 18) ?hd (xs := ([] : List (S83))) (inner := []) (ok := fun _ => True) (okp := fun _ => True) ?hr ?hp (fun _ hk => hk) trivial (Below.refl _ _) (Nat.le_refl _) (by simp) ?_; (case hd => rfl); (case hg => rfl); (case hr => first | (go_simp; done) | (go_simp; rfl)); (case hp => exact (Reps.none _ _))
          intro v108 w11 ho12 hb hg_ hnew_
          clear hg_ hnew_
          (first | rw [← Ny107.out] at ho12 | (simp only [Int.reduceToNat] at ho12; rw [← Ny107.out] at ho12))
          have n0_ := Aside0.mk (Kd.R_lower ho12 (below_size (by repeat (first | (with_reducible first | exact HB.out | apply below_alloc | apply pw_below_drewN | apply below_drew1 | refine below_set ?_ GE106.out) | exact HB.out))))
          have n1_ := Aside0.mk (blk_below (g := gb106) (o := .cells #[.int .i64 a0_0, .int .i64 a0_1, .int .i64 a0_2, .int .i64 a0_3] 27 (0, 0)) (by (with_reducible repeat (first | refine blk_drewN ?_ _ | refine blk_drew ?_ | refine blk_alloc ?_ _)); exact BK106.out) hb)
          have n2_ := Aside0.mk (below_step (by repeat (first | (with_reducible first | exact HB.out | apply below_alloc | apply pw_below_drewN | apply below_drew1 | refine below_set ?_ GE106.out) | exact HB.out)) hb)
          have z_HO113 := fun (h0_ : b 6 = true) => (show Kd.R (Kd.int .i64) 3 w11 w.heap.size (fun _ => True) v112 y111 from by first | exact (Kd.R_below (by (with_reducible repeat (first | apply Kd.R_alloc | apply Kd.R_drewN | apply Kd.R_drew)); exact (Q_HO113 h0_)) hb) | exact Kd.R_mono (Kd.R_below (by (with_reducible repeat (first | apply Kd.R_alloc | apply Kd.R_drewN | apply Kd.R_drew)); exact (Q_HO113 h0_)) hb) (fun _ h_ => by first | trivial | exact h_ | exact h_.1))
          clear BK106
          clear HB
          have HO109 := n0_
          have BK106 := n1_
          have HB := n2_
          clear n0_ n1_ n2_
          clear hb ho12
          refine hK.out _ _ ⟨v108, v112, m7_, m8_, (by rw [ha.out]; exact putSel_upk 0 hb_ rfl rfl rfl), (by (with_reducible repeat (first | refine blk_drewN ?_ _ | refine blk_drew ?_ | refine blk_alloc ?_ _)); exact BK106.out), (by repeat (first | (with_reducible first | exact HB.out | apply below_alloc | apply pw_below_drewN | apply below_drew1 | refine below_set ?_ GE106.out) | exact HB.out)), fun _ => (by (with_reducible repeat (first | apply Kd.R_alloc | apply Kd.R_drewN | apply Kd.R_drew)); exact HO109.out), z_HO113, fun h0_ => absurd ((hoff 7 (by kernel_rfl)).symm.trans h0_) (by decide), fun h0_ => absurd ((hoff 8 (by kernel_rfl)).symm.trans h0_) (by decide)⟩
        refine steps_cons ?_ ?_
        · rintro b a w' ⟨v108, v112, m7_, m8_, ha, Q_BK106, Q_HB, Q_HO109, Q_HO113, Q_X7_, Q_X8_⟩ hb_ hon hoff
          refine ⟨_, rfl, fun K hK => ?_⟩
          have e19 : a.tmps[19]? = some (.int .i64 a2) := by rw [ha]; exact (putSel_off rfl).trans rfl
          replace ha := Aside0.mk ha
          have BK106 := Aside0.mk Q_BK106
          have HB := Aside0.mk Q_HB
          refine value_ (w1 := w') (v := .int .i64 (wrap64 (a2 + 1))) (by rfl) rfl ?_ ?_
          · go_simp
            (try simp only [i64_w])
            try rfl
          refine hK.out _ _ ⟨v108, v112, m7_, m8_, (by rw [ha.out]; exact putSel_upk 1 hb_ rfl rfl rfl), Q_BK106, Q_HB, Q_HO109, fun h0_ => absurd ((hoff 6 (by kernel_rfl)).symm.trans h0_) (by decide), Q_X7_, fun h0_ => absurd ((hoff 8 (by kernel_rfl)).symm.trans h0_) (by decide)⟩
        refine steps_cons ?_ ?_
        · rintro b a w' ⟨v108, v112, m7_, m8_, ha, Q_BK106, Q_HB, Q_HO109, Q_HO113, Q_X7_, Q_X8_⟩ hb_ hon hoff
          refine ⟨_, rfl, fun K hK => ?_⟩
          have e4 : a.tmps[4]? = some (.pointer (some ⟨gb106, 0, none⟩)) := by rw [ha]; exact (putSel_off rfl).trans rfl
          replace ha := Aside0.mk ha
          have BK106 := Aside0.mk Q_BK106
          have HB := Aside0.mk Q_HB
          have hc0_ : w'.cell? ⟨gb106, 0, none⟩ = some (.int .i64 a0_0) := (blk_cell BK106.out 0).trans rfl
          have hc1_ : w'.cell? ⟨gb106, 1, none⟩ = some (.int .i64 a0_1) := (blk_cell BK106.out 1).trans rfl
          have hc2_ : w'.cell? ⟨gb106, 2, none⟩ = some (.int .i64 a0_2) := (blk_cell BK106.out 2).trans rfl
          have hc3_ : w'.cell? ⟨gb106, 3, none⟩ = some (.int .i64 a0_3) := (blk_cell BK106.out 3).trans rfl
          refine value_ (w1 := w') (v := .agg #[.int .i64 a0_0, .int .i64 a0_1, .int .i64 a0_2, .int .i64 a0_3]) (by rfl) rfl ?_ ?_
          · go_simp
            (try simp only [i64_w])
            try rfl
          refine hK.out _ _ ⟨v108, v112, m7_, m8_, (by rw [ha.out]; exact putSel_upk 2 hb_ rfl rfl rfl), Q_BK106, Q_HB, Q_HO109, fun h0_ => absurd ((hoff 6 (by kernel_rfl)).symm.trans h0_) (by decide), fun h0_ => absurd ((hoff 7 (by kernel_rfl)).symm.trans h0_) (by decide), fun h0_ => absurd ((hoff 8 (by kernel_rfl)).symm.trans h0_) (by decide)⟩
        refine steps_cons ?_ ?_
        · rintro b a w' ⟨v108, v112, m7_, m8_, ha, Q_BK106, Q_HB, Q_HO109, Q_HO113, Q_X7_, Q_X8_⟩ hb_ hon hoff
          refine ⟨_, rfl, fun K hK => ?_⟩
          have e21 : a.tmps[21]? = some (.agg #[.int .i64 a0_0, .int .i64 a0_1, .int .i64 a0_2, .int .i64 a0_3]) := by rw [ha]; exact putSel_on (e := (3, 21, .agg #[.int .i64 a0_0, .int .i64 a0_1, .int .i64 a0_2, .int .i64 a0_3])) 2 rfl rfl (hon 3 (by kernel_rfl)) rfl
          replace ha := Aside0.mk ha
          have BK106 := Aside0.mk Q_BK106
          have HB := Aside0.mk Q_HB
          refine goes_ Try.func97 (by kernel_rfl) rfl #[.agg #[.int .i64 a0_0, .int .i64 a0_1, .int .i64 a0_2, .int .i64 a0_3]] (by rfl) rfl rfl (by first | (simp only [List.map_toArray, List.map_cons, List.map_nil, Act.eval, Array.getD_eq_getD_getElem?, Option.getD_some, e21]; done) | (simp only [List.map_toArray, List.map_cons, List.map_nil, Act.eval, Array.getD_eq_getD_getElem?, Option.getD_some, e21]; rfl)) ?_
          with_reducible refine (xL3Many.calls a0_0 a0_1 a0_2 a0_3 t110 _ A5.out).mono ?_
          rintro e w11 ⟨rfl, hb⟩
          refine ⟨_, rfl, ?_⟩
          have n0_ := Aside0.mk (blk_below (g := gb106) (o := .cells #[.int .i64 a0_0, .int .i64 a0_1, .int .i64 a0_2, .int .i64 a0_3] 27 (0, 0)) (by (with_reducible repeat (first | refine blk_drewN ?_ _ | refine blk_drew ?_ | refine blk_alloc ?_ _)); exact BK106.out) hb)
          have n1_ := Aside0.mk (below_step (by repeat (first | (with_reducible first | exact HB.out | apply below_alloc | apply pw_below_drewN | apply below_drew1 | refine below_set ?_ GE106.out) | exact HB.out)) hb)
          have z_HO109 := fun (h0_ : b 0 = true) => (show Kd.R k83 83 w11 w.heap.size (fun _ => True) v108 y107 from by first | exact (Kd.R_below (by (with_reducible repeat (first | apply Kd.R_alloc | apply Kd.R_drewN | apply Kd.R_drew)); exact (Q_HO109 h0_)) hb) | exact Kd.R_mono (Kd.R_below (by (with_reducible repeat (first | apply Kd.R_alloc | apply Kd.R_drewN | apply Kd.R_drew)); exact (Q_HO109 h0_)) hb) (fun _ h_ => by first | trivial | exact h_ | exact h_.1))
          clear BK106
          clear HB
          have BK106 := n0_
          have HB := n1_
          clear n0_ n1_
          (try clear hb)
          (try clear hb2)
          (try clear hk)
          (try clear hi)
          refine hK.out _ _ ⟨v108, v112, m7_, m8_, (by rw [ha.out]; exact putSel_upk 3 hb_ rfl rfl rfl), (by (with_reducible repeat (first | refine blk_drewN ?_ _ | refine blk_drew ?_ | refine blk_alloc ?_ _)); exact BK106.out), (by repeat (first | (with_reducible first | exact HB.out | apply below_alloc | apply pw_below_drewN | apply below_drew1 | refine below_set ?_ GE106.out) | exact HB.out)), z_HO109, fun h0_ => absurd ((hoff 6 (by kernel_rfl)).symm.trans h0_) (by decide), fun h0_ => absurd ((hoff 7 (by kernel_rfl)).symm.trans h0_) (by decide), fun h0_ => absurd ((hoff 8 (by kernel_rfl)).symm.trans h0_) (by decide)⟩
        refine steps_cons ?_ ?_
        · rintro b a w' ⟨v108, v112, m7_, m8_, ha, Q_BK106, Q_HB, Q_HO109, Q_HO113, Q_X7_, Q_X8_⟩ hb_ hon hoff
          refine ⟨_, rfl, fun K hK => ?_⟩
          have e20 : a.tmps[20]? = some (.int .i64 (wrap64 (a2 + 1))) := by rw [ha]; exact putSel_on (e := (2, 20, .int .i64 (wrap64 (a2 + 1)))) 1 rfl rfl (hon 2 (by kernel_rfl)) rfl
          have e22 : a.tmps[22]? = some (.int .i64 t110) := by rw [ha]; exact putSel_on (e := (4, 22, .int .i64 t110)) 3 rfl rfl (hon 4 (by kernel_rfl)) rfl
          replace ha := Aside0.mk ha
          have BK106 := Aside0.mk Q_BK106
          have HB := Aside0.mk Q_HB
          refine value_ (w1 := w') (v := .int .i64 ji6) (by rfl) rfl ?_ ?_
          · go_simp
            (try simp only [i64_w])
            try rfl
          refine hK.out _ _ ⟨v108, v112, m7_, m8_, (by rw [ha.out]; exact putSel_upk 4 hb_ rfl rfl rfl), Q_BK106, Q_HB, Q_HO109, fun h0_ => absurd ((hoff 6 (by kernel_rfl)).symm.trans h0_) (by decide), Q_X7_, fun h0_ => absurd ((hoff 8 (by kernel_rfl)).symm.trans h0_) (by decide)⟩
        refine steps_cons ?_ ?_
        · rintro b a w' ⟨v108, v112, m7_, m8_, ha, Q_BK106, Q_HB, Q_HO109, Q_HO113, Q_X7_, Q_X8_⟩ hb_ hon hoff
          refine ⟨_, rfl, fun K hK => ?_⟩
          have e23 : a.tmps[23]? = some (.int .i64 ji6) := by rw [ha]; exact putSel_on (e := (5, 23, .int .i64 ji6)) 4 rfl rfl (hon 5 (by kernel_rfl)) rfl
          replace ha := Aside0.mk ha
          have BK106 := Aside0.mk Q_BK106
          have HB := Aside0.mk Q_HB
          refine Kd.R_make_step (Kd.int .i64) _ 3 (by rfl) (N := 24) rfl 38 _ _ rfl ji6 (by first | rfl | (go_simp; done) | (go_simp; rfl)) (by first | rfl | (go_simp; done) | (go_simp; rfl)) Try.underlying38 (.int .i64 0) 8 info3 rfl (by decide) (by omega) 0 (ok := fun _ => True) (okp := fun _ => True) rfl (fun _ hk => hk) trivial (of_decide_eq_true (by first | (with_reducible assumption) | assumption)) (Nat.le_trans (Nat.mul_le_mul_right _ (of_decide_eq_true (by first | (with_reducible assumption) | assumption) : ji6.toNat ≤ 35184372088832)) (by omega)) (Below.refl _ _) (Nat.le_refl _) ?_
          intro v112 w13 ho14 hb hg_ hnew_
          clear hg_ hnew_
          (first | rw [← Ny111.out] at ho14 | (simp only [Int.reduceToNat] at ho14; rw [← Ny111.out] at ho14))
          have n0_ := Aside0.mk (Kd.R_lower ho14 (below_size (by repeat (first | (with_reducible first | exact HB.out | apply below_alloc | apply pw_below_drewN | apply below_drew1 | refine below_set ?_ GE106.out) | exact HB.out))))
          have n1_ := Aside0.mk (blk_below (g := gb106) (o := .cells #[.int .i64 a0_0, .int .i64 a0_1, .int .i64 a0_2, .int .i64 a0_3] 27 (0, 0)) (by (with_reducible repeat (first | refine blk_drewN ?_ _ | refine blk_drew ?_ | refine blk_alloc ?_ _)); exact BK106.out) hb)
          have n2_ := Aside0.mk (below_step (by repeat (first | (with_reducible first | exact HB.out | apply below_alloc | apply pw_below_drewN | apply below_drew1 | refine below_set ?_ GE106.out) | exact HB.out)) hb)
          have z_HO109 := fun (h0_ : b 0 = true) => (show Kd.R k83 83 w13 w.heap.size (fun _ => True) v108 y107 from by first | exact (Kd.R_below (by (with_reducible repeat (first | apply Kd.R_alloc | apply Kd.R_drewN | apply Kd.R_drew)); exact (Q_HO109 h0_)) hb) | exact Kd.R_mono (Kd.R_below (by (with_reducible repeat (first | apply Kd.R_alloc | apply Kd.R_drewN | apply Kd.R_drew)); exact (Q_HO109 h0_)) hb) (fun _ h_ => by first | trivial | exact h_ | exact h_.1))
          clear BK106
          clear HB
          have HO113 := n0_
          have BK106 := n1_
          have HB := n2_
          clear n0_ n1_ n2_
          clear hb ho14
          refine hK.out _ _ ⟨v108, v112, m7_, m8_, (by rw [ha.out]; exact putSel_upk 5 hb_ rfl rfl rfl), (by (with_reducible repeat (first | refine blk_drewN ?_ _ | refine blk_drew ?_ | refine blk_alloc ?_ _)); exact BK106.out), (by repeat (first | (with_reducible first | exact HB.out | apply below_alloc | apply pw_below_drewN | apply below_drew1 | refine below_set ?_ GE106.out) | exact HB.out)), z_HO109, fun _ => (by (with_reducible repeat (first | apply Kd.R_alloc | apply Kd.R_drewN | apply Kd.R_drew)); exact HO113.out), Q_X7_, fun h0_ => absurd ((hoff 8 (by kernel_rfl)).symm.trans h0_) (by decide)⟩
        refine steps_cons ?_ ?_
        · rintro b a w' ⟨v108, v112, m7_, m8_, ha, Q_BK106, Q_HB, Q_HO109, Q_HO113, Q_X7_, Q_X8_⟩ hb_ hon hoff
          refine ⟨_, rfl, fun K hK => ?_⟩
          have e18 : a.tmps[18]? = some (v108) := by rw [ha]; exact putSel_on (e := (0, 18, v108)) 0 rfl rfl (hon 0 (by kernel_rfl)) rfl
          replace ha := Aside0.mk ha
          have BK106 := Aside0.mk Q_BK106
          have HB := Aside0.mk Q_HB
          have HO109 := Aside0.mk (Q_HO109 (hon 0 (by kernel_rfl)))
          refine value_ (w1 := w') (v := v108) (by rfl) rfl ?_ ?_
          · go_simp
            (try simp only [i64_w])
            try rfl
          refine hK.out _ _ ⟨v108, v112, (v108), m8_, (by rw [ha.out]; exact putSel_upk 6 hb_ rfl rfl rfl), Q_BK106, Q_HB, Q_HO109, Q_HO113, fun _ => rfl, fun h0_ => absurd ((hoff 8 (by kernel_rfl)).symm.trans h0_) (by decide)⟩
        refine steps_cons ?_ ?_
        · rintro b a w' ⟨v108, v112, m7_, m8_, ha, Q_BK106, Q_HB, Q_HO109, Q_HO113, Q_X7_, Q_X8_⟩ hb_ hon hoff
          refine ⟨_, rfl, fun K hK => ?_⟩
          have e24 : a.tmps[24]? = some (v112) := by rw [ha]; exact putSel_on (e := (6, 24, v112)) 5 rfl rfl (hon 6 (by kernel_rfl)) rfl
          replace ha := Aside0.mk ha
          have BK106 := Aside0.mk Q_BK106
          have HB := Aside0.mk Q_HB
          have HO109 := Aside0.mk (Q_HO109 (hon 0 (by kernel_rfl)))
          have HO113 := Aside0.mk (Q_HO113 (hon 6 (by kernel_rfl)))
          refine value_ (w1 := w') (v := v112) (by rfl) rfl ?_ ?_
          · go_simp
            (try simp only [i64_w])
            try rfl
          refine hK.out _ _ ⟨v108, v112, m7_, (v112), (by rw [ha.out]; exact putSel_upk 7 hb_ rfl rfl rfl), Q_BK106, Q_HB, Q_HO109, Q_HO113, Q_X7_, fun _ => rfl⟩
        exact steps_nil
      rintro b a w16 hall ⟨v108, v112, m7_, m8_, ha, Q_BK106, Q_HB, Q_HO109, Q_HO113, Q_X7_, Q_X8_⟩
      clear BK106 HB
      have hb0_ := hall 0 (by kernel_rfl)
      have hb2_ := hall 2 (by kernel_rfl)
      have hb3_ := hall 3 (by kernel_rfl)
      have hb4_ := hall 4 (by kernel_rfl)
      have hb5_ := hall 5 (by kernel_rfl)
      have hb6_ := hall 6 (by kernel_rfl)
      have hb7_ := hall 7 (by kernel_rfl)
      have hb8_ := hall 8 (by kernel_rfl)
      subst ha
      obtain rfl := (Q_X7_ hb7_).symm
      obtain rfl := (Q_X8_ hb8_).symm
      simp only [putSel, hb0_, hb2_, hb3_, hb4_, hb5_, hb6_, hb7_, hb8_, if_true, Act.put, List.setIfInBounds_toArray, List.set_cons_zero, List.set_cons_succ]
      have BK106 := Aside0.mk Q_BK106
      clear Q_BK106
      have HB := Aside0.mk Q_HB
      clear Q_HB
      have HO109 := Aside0.mk (Q_HO109 hb0_)
      clear Q_HO109
      have HO113 := Aside0.mk (Q_HO113 hb6_)
      clear Q_HO113
      clear hall hb0_ hb2_ hb3_ hb4_ hb5_ hb6_ hb7_ hb8_
      try go_wp2
      go_loopg [9, 11] k (fun kq v9 v11 w' => ∃ (x9_1 : List (S83)) (x10_1 : List Int) (x11_1 : Int), v11 = .int .i64 x11_1 ∧ Aside0 (spec_l3Next.l0 kq l1 a2 a3 x9_1 x10_1 x11_1 a0_0 a0_1 a0_2 a0_3 = some r) ∧ Aside0 (kq ≤ k) ∧ Aside0 (Kd.R k83 83 w' w.heap.size (fun _ => True) v9 x9_1) ∧ Aside0 (Kd.R (Kd.int .i64) 3 w' w.heap.size (fun _ => True) v112 x10_1) ∧ Aside0 (w'.heap[gb106]? = some (.cells #[.int .i64 a0_0, .int .i64 a0_1, .int .i64 a0_2, .int .i64 a0_3] 27 (0, 0))) ∧ Aside0 (Below w.heap.size w w'))
      case atStart => exact ⟨(y107), (y111), (0), (by first | rfl | (simp; done) | (simp [*]; done)), H', ⟨Nat.le_refl _⟩, ⟨by (with_reducible repeat (first | apply Kd.R_alloc | apply Kd.R_drewN | apply Kd.R_drew)); exact HO109.out⟩, ⟨by (with_reducible repeat (first | apply Kd.R_alloc | apply Kd.R_drewN | apply Kd.R_drew)); exact HO113.out⟩, ⟨by (with_reducible repeat (first | refine blk_drewN ?_ _ | refine blk_drew ?_ | refine blk_alloc ?_ _)); exact BK106.out⟩, ⟨by repeat (first | (with_reducible first | exact HB.out | apply below_alloc | apply pw_below_drewN | apply below_drew1 | refine below_set ?_ GE106.out) | exact HB.out)⟩⟩
      case round =>
        clear H'
        try clear c1
        try clear c2
        try clear p2
        try clear c3
        try clear p6
        try clear c7
        try clear c7b0
        try clear c7b1
        try clear c8
        try clear c8b0
        try clear c8b1
        try clear c9
        obtain ⟨x9_1, x10_1, x11_1, rfl, HA, HK1, HO_9, HO_10, BK106, HB⟩ := hrel
        cases gk with
        | zero => exact absurd HA.out (by simp [spec_l3Next.l0])
        | succ k1 =>
          have H := HA.out
          clear HA
          simp only [spec_l3Next.l0] at H
          by_cases c17 : x11_1 < (l1.length : Int)
          · rw [if_pos c17] at H
            have c17b0 : decide (x11_1 < (l1.length : Int)) = true := decide_eq_true c17
            clear c17
            have H' := Aside0.mk H
            clear H
            go_wp2
            go_loopg [9, 12] k1 (fun kq v9 v12 w' => ∃ (x9_2 : List (S83)) (x10_2 : List Int) (x12_2 : Int), v12 = .int .i64 x12_2 ∧ Aside0 (spec_l3Next.l1 kq l1 a2 a3 x9_2 x10_2 x11_1 x12_2 a0_0 a0_1 a0_2 a0_3 = some r) ∧ Aside0 (kq ≤ k1) ∧ Aside0 (Kd.R k83 83 w' w.heap.size (fun _ => True) v9 x9_2) ∧ Aside0 (Kd.R (Kd.int .i64) 3 w' w.heap.size (fun _ => True) v112 x10_2) ∧ Aside0 (w'.heap[gb106]? = some (.cells #[.int .i64 a0_0, .int .i64 a0_1, .int .i64 a0_2, .int .i64 a0_3] 27 (0, 0))) ∧ Aside0 (Below w.heap.size w w'))
            case atStart => exact ⟨(x9_1), (x10_1), (0), (by first | rfl | (simp; done) | (simp [*]; done)), H', ⟨Nat.le_refl _⟩, ⟨by (with_reducible repeat (first | apply Kd.R_alloc | apply Kd.R_drewN | apply Kd.R_drew)); exact HO_9.out⟩, ⟨by (with_reducible repeat (first | apply Kd.R_alloc | apply Kd.R_drewN | apply Kd.R_drew)); exact HO_10.out⟩, ⟨by (with_reducible repeat (first | refine blk_drewN ?_ _ | refine blk_drew ?_ | refine blk_alloc ?_ _)); exact BK106.out⟩, ⟨by repeat (first | (with_reducible first | exact HB.out | apply below_alloc | apply pw_below_drewN | apply below_drew1 | refine below_set ?_ GE106.out) | exact HB.out)⟩⟩
            case round =>
              clear H'
              try clear c1
              try clear c2
              try clear p2
              try clear c3
              try clear p6
              try clear c7
              try clear c7b0
              try clear c7b1
              try clear c8
              try clear c8b0
              try clear c8b1
              try clear c9
              try clear c17
              try clear c17b0
              try clear p2
              try clear p6
              obtain ⟨x9_2, x10_2, x12_2, rfl, HA, HK2, HO_9, HO_10, BK106, HB⟩ := hrel
              cases gk with
              | zero => exact absurd HA.out (by simp [spec_l3Next.l1])
              | succ k2 =>
                have H := HA.out
                clear HA
                simp only [spec_l3Next.l1] at H
                by_cases c18 : x12_2 < 16
                · rw [if_pos c18] at H
                  have c18b0 : decide (x12_2 < 16) = true := decide_eq_true c18
                  clear c18
                  by_cases c19 : 0 ≤ x11_1
                  · rw [if_pos c19] at H
                    have c19b0 : decide (0 ≤ x11_1) = true := decide_eq_true c19
                    clear c19
                    by_cases c20 : x11_1 < (l1.length : Int)
                    · rw [if_pos c20] at H
                      have c20b0 : decide (x11_1 < (l1.length : Int)) = true := decide_eq_true c20
                      clear c20
                      replace H := Option.bind_eq_some_iff.mp H
                      obtain ⟨t115, A210, H⟩ := H
                      replace H : ((xL2Step.f a0_0 a0_1 a0_2 a0_3 ((rd_T83 l1 x11_1).f1.f0) ((rd_T83 l1 x11_1).f1.f1) ((rd_T83 l1 x11_1).f1.f2) ((rd_T83 l1 x11_1).f1.f3) (Go.bits .and .i64 x12_2 t115)).bind fun bt116 => ((xL2Set.f a0_0 a0_1 a0_2 a0_3 x12_2).bind fun t124 => (if t124 = true then (if bt116.2.2.2.2 = 0 then (spec_l3Next.j2 k2 l1 a2 a3 x9_2 x10_2 x11_1 x12_2 (wrap64 (((rd_T83 l1 x11_1).f0) + bt116.2.2.2.2)) ((rd_T83 l1 x11_1).f2) true a0_0 a0_1 a0_2 a0_3 bt116.1 bt116.2.1 bt116.2.2.1 bt116.2.2.2.1) else (spec_l3Next.j2 k2 l1 a2 a3 x9_2 x10_2 x11_1 x12_2 (wrap64 (((rd_T83 l1 x11_1).f0) + bt116.2.2.2.2)) ((rd_T83 l1 x11_1).f2) (decide ((wrap64 (((rd_T83 l1 x11_1).f0) + bt116.2.2.2.2)) > a2)) a0_0 a0_1 a0_2 a0_3 bt116.1 bt116.2.1 bt116.2.2.1 bt116.2.2.2.1)) else (spec_l3Next.j2 k2 l1 a2 a3 x9_2 x10_2 x11_1 x12_2 (wrap64 (((rd_T83 l1 x11_1).f0) + bt116.2.2.2.2)) ((rd_T83 l1 x11_1).f2) true a0_0 a0_1 a0_2 a0_3 bt116.1 bt116.2.1 bt116.2.2.1 bt116.2.2.2.1)))) = some r := H
                      have A21 := Aside0.mk A210
                      clear A210
                      replace H := Option.bind_eq_some_iff.mp H
                      obtain ⟨⟨t116, t117, t118, t119, t120⟩, A220, H⟩ := H
                      replace H : ((xL2Set.f a0_0 a0_1 a0_2 a0_3 x12_2).bind fun t124 => (if t124 = true then (if t120 = 0 then (spec_l3Next.j2 k2 l1 a2 a3 x9_2 x10_2 x11_1 x12_2 (wrap64 (((rd_T83 l1 x11_1).f0) + t120)) ((rd_T83 l1 x11_1).f2) true a0_0 a0_1 a0_2 a0_3 t116 t117 t118 t119) else (spec_l3Next.j2 k2 l1 a2 a3 x9_2 x10_2 x11_1 x12_2 (wrap64 (((rd_T83 l1 x11_1).f0) + t120)) ((rd_T83 l1 x11_1).f2) (decide ((wrap64 (((rd_T83 l1 x11_1).f0) + t120)) > a2)) a0_0 a0_1 a0_2 a0_3 t116 t117 t118 t119)) else (spec_l3Next.j2 k2 l1 a2 a3 x9_2 x10_2 x11_1 x12_2 (wrap64 (((rd_T83 l1 x11_1).f0) + t120)) ((rd_T83 l1 x11_1).f2) true a0_0 a0_1 a0_2 a0_3 t116 t117 t118 t119))) = some r := H
                      have A22 := Aside0.mk A220
                      clear A220
                      have HC23 := Aside0.mk H
                      clear H
                      try go_wp2
                      have n0_ := Aside0.mk (Kd.R_drew HO_9.out)
                      have n1_ := Aside0.mk (Kd.R_drew HO_10.out)
                      have n2_ := Aside0.mk (blk_drew BK106.out)
                      have n3_ := Aside0.mk (below_drew1 HB.out)
                      clear HO_9
                      clear HO_10
                      clear BK106
                      clear HB
                      have HO_9 := n0_
                      have HO_10 := n1_
                      have BK106 := n2_
                      have HB := n3_
                      clear n0_ n1_ n2_ n3_
                      have p114 : 0 ≤ (x11_1 : Int) := of_decide_eq_true (by first | (with_reducible assumption) | assumption)
                      have q114 : x11_1 < (l1.length : Int) := of_decide_eq_true (by first | (with_reducible assumption) | assumption)
                      obtain ⟨ad114, e114, hx114_0, hx114_1, hx114_2, hx114_3, hx114_4, hx114_5⟩ := at_T83 HR1.out x11_1 p114 q114
                      have hw114_5 := hx114_5
                      have hw114_4 := hx114_4
                      have hw114_3 := hx114_3
                      have hw114_2 := hx114_2
                      have hw114_1 := hx114_1
                      have hw114_0 := hx114_0
                      cases e114
                      replace hx114_0 := (HB.out.cell (World.block_lt_of_cell? w _ hx114_0)).trans hx114_0
                      replace hx114_1 := (HB.out.cell (World.block_lt_of_cell? w _ hx114_1)).trans hx114_1
                      replace hx114_2 := (HB.out.cell (World.block_lt_of_cell? w _ hx114_2)).trans hx114_2
                      replace hx114_3 := (HB.out.cell (World.block_lt_of_cell? w _ hx114_3)).trans hx114_3
                      replace hx114_4 := (HB.out.cell (World.block_lt_of_cell? w _ hx114_4)).trans hx114_4
                      replace hx114_5 := (HB.out.cell (World.block_lt_of_cell? w _ hx114_5)).trans hx114_5
                      replace p114 := eq_true p114
                      replace q114 := eq_true q114
                      refine start_ (n := 17) (S := fun w' => True) (ds := []) #[false, false, false, false, false, false, false, false, false, false, false, false, false, false, false, false, false] (by kernel_rfl) rfl rfl trivial (fun hHeld => ?_); refine with_tabW spec_l3Next.tab8 spec_l3Next.bits8 (fun HT_ HW_ => ?_)
                      generalize wr.drew = w24 at HO_9 HO_10 BK106 HB hx114_0 hx114_1 hx114_2 hx114_3 hx114_4 hx114_5 hHeld ⊢
                      refine pure_ (i := 1) (N := some 37) (v := ?_) (a' := ?_) #[false, true, false, false, false, false, false, false, false, false, false, false, false, false, false, false, false] rfl rfl (any_of HT_.out (by kernel_rfl)) (fun _ _ _ h => h) (Or.inl ⟨by rfl, ?_⟩) ?_ ?_
                      rotate_left
                      · intro w'
                        go_simp
                        with_reducible rfl
                      rotate_left
                      · simp only [Act.put, List.setIfInBounds_toArray, List.set_cons_zero, List.set_cons_succ, i64_w, i32_w]
                        rfl
                      refine pure_ (i := 2) (N := some 38) (v := ?_) (a' := ?_) #[false, true, true, false, false, false, false, false, false, false, false, false, false, false, false, false, false] rfl rfl (any_of HT_.out (by kernel_rfl)) (fun _ _ _ h => h) (Or.inl ⟨by rfl, ?_⟩) ?_ ?_
                      rotate_left
                      · intro w'
                        go_simp
                        with_reducible rfl
                      rotate_left
                      · simp only [Act.put, List.setIfInBounds_toArray, List.set_cons_zero, List.set_cons_succ, i64_w, i32_w]
                        rfl
                      refine pure_ (i := 6) (N := some 42) (v := ?_) (a' := ?_) #[false, true, true, false, false, false, true, false, false, false, false, false, false, false, false, false, false] rfl rfl (any_of HT_.out (by kernel_rfl)) (fun _ _ _ h => h) (Or.inl ⟨by rfl, ?_⟩) ?_ ?_
                      rotate_left
                      · intro w'
                        go_simp
                        with_reducible rfl
                      rotate_left
                      · simp only [Act.put, List.setIfInBounds_toArray, List.set_cons_zero, List.set_cons_succ, i64_w, i32_w]
                        rfl
                      refine inv_at [0, 3, 4, 5, 7, 8, 9, 10, 11, 12, 13, 14, 15, 16] (fun a0_ b a w' => ∃ (gb121 : Nat) (m14_ : Value), a = putSel a0_ b [(0, 36, .agg #[.int .i64 a0_0, .int .i64 a0_1, .int .i64 a0_2, .int .i64 a0_3]), (3, 39, .pointer (some (ad114.add ((x11_1).toNat * 6)))), (4, 40, .pointer (some ⟨(ad114.add ((x11_1).toNat * 6)).block, (ad114.add ((x11_1).toNat * 6)).off + 1, none⟩)), (5, 41, .agg #[.int .i64 ((rd_T83 l1 x11_1).f1.f0), .int .i64 ((rd_T83 l1 x11_1).f1.f1), .int .i64 ((rd_T83 l1 x11_1).f1.f2), .int .i64 ((rd_T83 l1 x11_1).f1.f3)]), (7, 43, .agg #[.int .i64 a0_0, .int .i64 a0_1, .int .i64 a0_2, .int .i64 a0_3]), (8, 44, .int .i64 t115), (9, 45, .int .i64 (Go.bits .and .i64 x12_2 t115)), (10, 46, .tuple #[.agg #[.int .i64 t116, .int .i64 t117, .int .i64 t118, .int .i64 t119], .int .i64 t120]), (11, 35, .tuple #[.agg #[.int .i64 t116, .int .i64 t117, .int .i64 t118, .int .i64 t119], .int .i64 t120]), (12, 47, .agg #[.int .i64 t116, .int .i64 t117, .int .i64 t118, .int .i64 t119]), (13, 48, .int .i64 t120), (14, 13, m14_), (16, 14, .int .i64 t120)] ∧ (Kd.R (Kd.int .i64) 3 w' w.heap.size (fun _ => True) v112 x10_2) ∧ (Kd.R k83 83 w' w.heap.size (fun _ => True) u9 x9_2) ∧ (w'.heap[gb106]? = some (.cells #[.int .i64 a0_0, .int .i64 a0_1, .int .i64 a0_2, .int .i64 a0_3] 27 (0, 0))) ∧ (Below w.heap.size w w') ∧ (b 14 = true → b 15 = false → w'.heap[gb121]? = some (.cells #[.int .i64 0, .int .i64 0, .int .i64 0, .int .i64 0] 22 (0, 0))) ∧ (b 14 = true → w.heap.size ≤ gb121) ∧ (b 14 = true → w.heap.size ≤ gb121) ∧ (b 14 = true → gb106 ≠ gb121) ∧ (b 14 = true → gb121 ≠ gb106) ∧ (b 15 = true → w'.heap[gb121]? = some (.cells #[.int .i64 t116, .int .i64 t117, .int .i64 t118, .int .i64 t119] 22 (0, 0))) ∧ (b 14 = true → (m14_ : Value) = .pointer (some ⟨gb121, 0, none⟩))) HT_.out HW_.out (by kernel_rfl) (by kernel_rfl) ?_ ?_ ?_
                      · exact ⟨0, .bool false, by simp only [putSel, Bool.false_eq_true, if_false], HO_10.out, HO_9.out, BK106.out, HB.out, fun h_ => absurd h_ (by decide), fun h_ => absurd h_ (by decide), fun h_ => absurd h_ (by decide), fun h_ => absurd h_ (by decide), fun h_ => absurd h_ (by decide), fun h_ => absurd h_ (by decide), fun h_ => absurd h_ (by decide)⟩
                      · skip
                        clear BK106 HB HO_10 HO_9
                        refine steps_cons ?_ ?_
                        · rintro b a w' ⟨gb121, m14_, ha, Q_HO_10, Q_HO_9, Q_BK106, Q_HB, Q_BK121, Q_GW121, Q_GE121, Q_NB106_121, Q_NB121_106, Q_BK121_e15, Q_X14_⟩ hb_ hon hoff
                          refine ⟨_, rfl, fun K hK => ?_⟩
                          have e4 : a.tmps[4]? = some (.pointer (some ⟨gb106, 0, none⟩)) := by rw [ha]; exact (putSel_off rfl).trans rfl
                          replace ha := Aside0.mk ha
                          have HO_10 := Aside0.mk Q_HO_10
                          have HO_9 := Aside0.mk Q_HO_9
                          have BK106 := Aside0.mk Q_BK106
                          have HB := Aside0.mk Q_HB
                          have hc0_ : w'.cell? ⟨gb106, 0, none⟩ = some (.int .i64 a0_0) := (blk_cell BK106.out 0).trans rfl
                          have hc1_ : w'.cell? ⟨gb106, 1, none⟩ = some (.int .i64 a0_1) := (blk_cell BK106.out 1).trans rfl
                          have hc2_ : w'.cell? ⟨gb106, 2, none⟩ = some (.int .i64 a0_2) := (blk_cell BK106.out 2).trans rfl
                          have hc3_ : w'.cell? ⟨gb106, 3, none⟩ = some (.int .i64 a0_3) := (blk_cell BK106.out 3).trans rfl
                          refine value_ (w1 := w') (v := .agg #[.int .i64 a0_0, .int .i64 a0_1, .int .i64 a0_2, .int .i64 a0_3]) (by rfl) rfl ?_ ?_
                          · go_simp
                            (try simp only [i64_w])
                            try rfl
                          refine hK.out _ _ ⟨gb121, m14_, (by rw [ha.out]; exact putSel_upk 0 hb_ rfl rfl rfl), Q_HO_10, Q_HO_9, Q_BK106, Q_HB, Q_BK121, Q_GW121, Q_GE121, Q_NB106_121, Q_NB121_106, fun h0_ => absurd ((hoff 15 (by kernel_rfl)).symm.trans h0_) (by decide), Q_X14_⟩
                        refine steps_cons ?_ ?_
                        · rintro b a w' ⟨gb121, m14_, ha, Q_HO_10, Q_HO_9, Q_BK106, Q_HB, Q_BK121, Q_GW121, Q_GE121, Q_NB106_121, Q_NB121_106, Q_BK121_e15, Q_X14_⟩ hb_ hon hoff
                          refine ⟨_, rfl, fun K hK => ?_⟩
                          have e37 : a.tmps[37]? = some (.slice (some ad114) l1.length c1) := by rw [ha]; exact (putSel_off rfl).trans rfl
                          have e38 : a.tmps[38]? = some (.int .i64 x11_1) := by rw [ha]; exact (putSel_off rfl).trans rfl
                          replace ha := Aside0.mk ha
                          have HO_10 := Aside0.mk Q_HO_10
                          have HO_9 := Aside0.mk Q_HO_9
                          have BK106 := Aside0.mk Q_BK106
                          have HB := Aside0.mk Q_HB
                          have hs0_ : w'.cell? (ad114.add ((x11_1).toNat * 6)) = some (.int .i64 ((rd_T83 l1 x11_1).f0)) := ((HB.out.cell (World.block_lt_of_cell? w _ hw114_0)).trans hw114_0)
                          have hs1_ : w'.cell? ⟨(ad114.add ((x11_1).toNat * 6)).block, (ad114.add ((x11_1).toNat * 6)).off + 1, none⟩ = some (.int .i64 ((rd_T83 l1 x11_1).f1.f0)) := ((HB.out.cell (World.block_lt_of_cell? w _ hw114_1)).trans hw114_1)
                          have hs2_ : w'.cell? ⟨(ad114.add ((x11_1).toNat * 6)).block, (ad114.add ((x11_1).toNat * 6)).off + 2, none⟩ = some (.int .i64 ((rd_T83 l1 x11_1).f1.f1)) := ((HB.out.cell (World.block_lt_of_cell? w _ hw114_2)).trans hw114_2)
                          have hs3_ : w'.cell? ⟨(ad114.add ((x11_1).toNat * 6)).block, (ad114.add ((x11_1).toNat * 6)).off + 3, none⟩ = some (.int .i64 ((rd_T83 l1 x11_1).f1.f2)) := ((HB.out.cell (World.block_lt_of_cell? w _ hw114_3)).trans hw114_3)
                          have hs4_ : w'.cell? ⟨(ad114.add ((x11_1).toNat * 6)).block, (ad114.add ((x11_1).toNat * 6)).off + 4, none⟩ = some (.int .i64 ((rd_T83 l1 x11_1).f1.f3)) := ((HB.out.cell (World.block_lt_of_cell? w _ hw114_4)).trans hw114_4)
                          have hs5_ : w'.cell? ⟨(ad114.add ((x11_1).toNat * 6)).block, (ad114.add ((x11_1).toNat * 6)).off + 5, none⟩ = some (.int .i64 ((rd_T83 l1 x11_1).f2)) := ((HB.out.cell (World.block_lt_of_cell? w _ hw114_5)).trans hw114_5)
                          refine value_ (w1 := w') (v := .pointer (some (ad114.add ((x11_1).toNat * 6)))) (by rfl) rfl ?_ ?_
                          · go_simp
                            (try simp only [i64_w])
                            try rfl
                          refine hK.out _ _ ⟨gb121, m14_, (by rw [ha.out]; exact putSel_upk 1 hb_ rfl rfl rfl), Q_HO_10, Q_HO_9, Q_BK106, Q_HB, Q_BK121, Q_GW121, Q_GE121, Q_NB106_121, Q_NB121_106, fun h0_ => absurd ((hoff 15 (by kernel_rfl)).symm.trans h0_) (by decide), Q_X14_⟩
                        refine steps_cons ?_ ?_
                        · rintro b a w' ⟨gb121, m14_, ha, Q_HO_10, Q_HO_9, Q_BK106, Q_HB, Q_BK121, Q_GW121, Q_GE121, Q_NB106_121, Q_NB121_106, Q_BK121_e15, Q_X14_⟩ hb_ hon hoff
                          refine ⟨_, rfl, fun K hK => ?_⟩
                          have e39 : a.tmps[39]? = some (.pointer (some (ad114.add ((x11_1).toNat * 6)))) := by rw [ha]; exact putSel_on (e := (3, 39, .pointer (some (ad114.add ((x11_1).toNat * 6))))) 1 rfl rfl (hon 3 (by kernel_rfl)) rfl
                          replace ha := Aside0.mk ha
                          have HO_10 := Aside0.mk Q_HO_10
                          have HO_9 := Aside0.mk Q_HO_9
                          have BK106 := Aside0.mk Q_BK106
                          have HB := Aside0.mk Q_HB
                          refine value_ (w1 := w') (v := .pointer (some ⟨(ad114.add ((x11_1).toNat * 6)).block, (ad114.add ((x11_1).toNat * 6)).off + 1, none⟩)) (by rfl) rfl ?_ ?_
                          · go_simp
                            (try simp only [i64_w])
                            try rfl
                          refine hK.out _ _ ⟨gb121, m14_, (by rw [ha.out]; exact putSel_upk 2 hb_ rfl rfl rfl), Q_HO_10, Q_HO_9, Q_BK106, Q_HB, Q_BK121, Q_GW121, Q_GE121, Q_NB106_121, Q_NB121_106, fun h0_ => absurd ((hoff 15 (by kernel_rfl)).symm.trans h0_) (by decide), Q_X14_⟩
                        refine steps_cons ?_ ?_
                        · rintro b a w' ⟨gb121, m14_, ha, Q_HO_10, Q_HO_9, Q_BK106, Q_HB, Q_BK121, Q_GW121, Q_GE121, Q_NB106_121, Q_NB121_106, Q_BK121_e15, Q_X14_⟩ hb_ hon hoff
                          refine ⟨_, rfl, fun K hK => ?_⟩
                          have e40 : a.tmps[40]? = some (.pointer (some ⟨(ad114.add ((x11_1).toNat * 6)).block, (ad114.add ((x11_1).toNat * 6)).off + 1, none⟩)) := by rw [ha]; exact putSel_on (e := (4, 40, .pointer (some ⟨(ad114.add ((x11_1).toNat * 6)).block, (ad114.add ((x11_1).toNat * 6)).off + 1, none⟩))) 2 rfl rfl (hon 4 (by kernel_rfl)) rfl
                          replace ha := Aside0.mk ha
                          have HO_10 := Aside0.mk Q_HO_10
                          have HO_9 := Aside0.mk Q_HO_9
                          have BK106 := Aside0.mk Q_BK106
                          have HB := Aside0.mk Q_HB
                          have hs0_ : w'.cell? (ad114.add ((x11_1).toNat * 6)) = some (.int .i64 ((rd_T83 l1 x11_1).f0)) := ((HB.out.cell (World.block_lt_of_cell? w _ hw114_0)).trans hw114_0)
                          have hs1_ : w'.cell? ⟨(ad114.add ((x11_1).toNat * 6)).block, (ad114.add ((x11_1).toNat * 6)).off + 1, none⟩ = some (.int .i64 ((rd_T83 l1 x11_1).f1.f0)) := ((HB.out.cell (World.block_lt_of_cell? w _ hw114_1)).trans hw114_1)
                          have hs2_ : w'.cell? ⟨(ad114.add ((x11_1).toNat * 6)).block, (ad114.add ((x11_1).toNat * 6)).off + 2, none⟩ = some (.int .i64 ((rd_T83 l1 x11_1).f1.f1)) := ((HB.out.cell (World.block_lt_of_cell? w _ hw114_2)).trans hw114_2)
                          have hs3_ : w'.cell? ⟨(ad114.add ((x11_1).toNat * 6)).block, (ad114.add ((x11_1).toNat * 6)).off + 3, none⟩ = some (.int .i64 ((rd_T83 l1 x11_1).f1.f2)) := ((HB.out.cell (World.block_lt_of_cell? w _ hw114_3)).trans hw114_3)
                          have hs4_ : w'.cell? ⟨(ad114.add ((x11_1).toNat * 6)).block, (ad114.add ((x11_1).toNat * 6)).off + 4, none⟩ = some (.int .i64 ((rd_T83 l1 x11_1).f1.f3)) := ((HB.out.cell (World.block_lt_of_cell? w _ hw114_4)).trans hw114_4)
                          have hs5_ : w'.cell? ⟨(ad114.add ((x11_1).toNat * 6)).block, (ad114.add ((x11_1).toNat * 6)).off + 5, none⟩ = some (.int .i64 ((rd_T83 l1 x11_1).f2)) := ((HB.out.cell (World.block_lt_of_cell? w _ hw114_5)).trans hw114_5)
                          refine value_ (w1 := w') (v := .agg #[.int .i64 ((rd_T83 l1 x11_1).f1.f0), .int .i64 ((rd_T83 l1 x11_1).f1.f1), .int .i64 ((rd_T83 l1 x11_1).f1.f2), .int .i64 ((rd_T83 l1 x11_1).f1.f3)]) (by rfl) rfl ?_ ?_
                          · go_simp
                            (try simp only [i64_w])
                            try rfl
                          refine hK.out _ _ ⟨gb121, m14_, (by rw [ha.out]; exact putSel_upk 3 hb_ rfl rfl rfl), Q_HO_10, Q_HO_9, Q_BK106, Q_HB, Q_BK121, Q_GW121, Q_GE121, Q_NB106_121, Q_NB121_106, fun h0_ => absurd ((hoff 15 (by kernel_rfl)).symm.trans h0_) (by decide), Q_X14_⟩
                        refine steps_cons ?_ ?_
                        · rintro b a w' ⟨gb121, m14_, ha, Q_HO_10, Q_HO_9, Q_BK106, Q_HB, Q_BK121, Q_GW121, Q_GE121, Q_NB106_121, Q_NB121_106, Q_BK121_e15, Q_X14_⟩ hb_ hon hoff
                          refine ⟨_, rfl, fun K hK => ?_⟩
                          have e4 : a.tmps[4]? = some (.pointer (some ⟨gb106, 0, none⟩)) := by rw [ha]; exact (putSel_off rfl).trans rfl
                          replace ha := Aside0.mk ha
                          have HO_10 := Aside0.mk Q_HO_10
                          have HO_9 := Aside0.mk Q_HO_9
                          have BK106 := Aside0.mk Q_BK106
                          have HB := Aside0.mk Q_HB
                          have hc0_ : w'.cell? ⟨gb106, 0, none⟩ = some (.int .i64 a0_0) := (blk_cell BK106.out 0).trans rfl
                          have hc1_ : w'.cell? ⟨gb106, 1, none⟩ = some (.int .i64 a0_1) := (blk_cell BK106.out 1).trans rfl
                          have hc2_ : w'.cell? ⟨gb106, 2, none⟩ = some (.int .i64 a0_2) := (blk_cell BK106.out 2).trans rfl
                          have hc3_ : w'.cell? ⟨gb106, 3, none⟩ = some (.int .i64 a0_3) := (blk_cell BK106.out 3).trans rfl
                          refine value_ (w1 := w') (v := .agg #[.int .i64 a0_0, .int .i64 a0_1, .int .i64 a0_2, .int .i64 a0_3]) (by rfl) rfl ?_ ?_
                          · go_simp
                            (try simp only [i64_w])
                            try rfl
                          refine hK.out _ _ ⟨gb121, m14_, (by rw [ha.out]; exact putSel_upk 4 hb_ rfl rfl rfl), Q_HO_10, Q_HO_9, Q_BK106, Q_HB, Q_BK121, Q_GW121, Q_GE121, Q_NB106_121, Q_NB121_106, fun h0_ => absurd ((hoff 15 (by kernel_rfl)).symm.trans h0_) (by decide), Q_X14_⟩
                        refine steps_cons ?_ ?_
                        · rintro b a w' ⟨gb121, m14_, ha, Q_HO_10, Q_HO_9, Q_BK106, Q_HB, Q_BK121, Q_GW121, Q_GE121, Q_NB106_121, Q_NB121_106, Q_BK121_e15, Q_X14_⟩ hb_ hon hoff
                          refine ⟨_, rfl, fun K hK => ?_⟩
                          have e43 : a.tmps[43]? = some (.agg #[.int .i64 a0_0, .int .i64 a0_1, .int .i64 a0_2, .int .i64 a0_3]) := by rw [ha]; exact putSel_on (e := (7, 43, .agg #[.int .i64 a0_0, .int .i64 a0_1, .int .i64 a0_2, .int .i64 a0_3])) 4 rfl rfl (hon 7 (by kernel_rfl)) rfl
                          replace ha := Aside0.mk ha
                          have HO_10 := Aside0.mk Q_HO_10
                          have HO_9 := Aside0.mk Q_HO_9
                          have BK106 := Aside0.mk Q_BK106
                          have HB := Aside0.mk Q_HB
                          refine goes_ Try.func86 (by kernel_rfl) rfl #[.agg #[.int .i64 a0_0, .int .i64 a0_1, .int .i64 a0_2, .int .i64 a0_3]] (by rfl) rfl rfl (by first | (simp only [List.map_toArray, List.map_cons, List.map_nil, Act.eval, Array.getD_eq_getD_getElem?, Option.getD_some, e43]; done) | (simp only [List.map_toArray, List.map_cons, List.map_nil, Act.eval, Array.getD_eq_getD_getElem?, Option.getD_some, e43]; rfl)) ?_
                          with_reducible refine (xL2All.calls a0_0 a0_1 a0_2 a0_3 t115 _ A21.out).mono ?_
                          rintro e w25 ⟨rfl, hb⟩
                          refine ⟨_, rfl, ?_⟩
                          have n0_ := Aside0.mk (Kd.R_below (by (with_reducible repeat (first | apply Kd.R_alloc | apply Kd.R_drewN | apply Kd.R_drew)); exact HO_9.out) hb)
                          have n1_ := Aside0.mk (Kd.R_below (by (with_reducible repeat (first | apply Kd.R_alloc | apply Kd.R_drewN | apply Kd.R_drew)); exact HO_10.out) hb)
                          have n2_ := Aside0.mk (blk_below (g := gb106) (o := .cells #[.int .i64 a0_0, .int .i64 a0_1, .int .i64 a0_2, .int .i64 a0_3] 27 (0, 0)) (by (with_reducible repeat (first | refine blk_drewN ?_ _ | refine blk_drew ?_ | refine blk_alloc ?_ _)); exact BK106.out) hb)
                          have n3_ := Aside0.mk (below_step (by repeat (first | (with_reducible first | exact HB.out | apply below_alloc | apply pw_below_drewN | apply below_drew1 | refine below_set ?_ GE106.out) | exact HB.out)) hb)
                          have z_BK121 := fun (h0_ : b 14 = true) (h1_ : b 15 = false) => (show w25.heap[gb121]? = some (.cells #[.int .i64 0, .int .i64 0, .int .i64 0, .int .i64 0] 22 (0, 0)) from by first | exact (blk_below (g := gb121) (o := .cells #[.int .i64 0, .int .i64 0, .int .i64 0, .int .i64 0] 22 (0, 0)) (by (with_reducible repeat (first | refine blk_drewN ?_ _ | refine blk_drew ?_ | refine blk_alloc ?_ _)); exact (Q_BK121 h0_ h1_)) hb))
                          clear HO_9
                          clear HO_10
                          clear BK106
                          clear HB
                          have HO_9 := n0_
                          have HO_10 := n1_
                          have BK106 := n2_
                          have HB := n3_
                          clear n0_ n1_ n2_ n3_
                          (try clear hb)
                          (try clear hb2)
                          (try clear hk)
                          (try clear hi)
                          refine hK.out _ _ ⟨gb121, m14_, (by rw [ha.out]; exact putSel_upk 5 hb_ rfl rfl rfl), (by (with_reducible repeat (first | apply Kd.R_alloc | apply Kd.R_drewN | apply Kd.R_drew)); exact HO_10.out), (by (with_reducible repeat (first | apply Kd.R_alloc | apply Kd.R_drewN | apply Kd.R_drew)); exact HO_9.out), (by (with_reducible repeat (first | refine blk_drewN ?_ _ | refine blk_drew ?_ | refine blk_alloc ?_ _)); exact BK106.out), (by repeat (first | (with_reducible first | exact HB.out | apply below_alloc | apply pw_below_drewN | apply below_drew1 | refine below_set ?_ GE106.out) | exact HB.out)), z_BK121, Q_GW121, Q_GE121, Q_NB106_121, Q_NB121_106, fun h0_ => absurd ((hoff 15 (by kernel_rfl)).symm.trans h0_) (by decide), Q_X14_⟩
                        refine steps_cons ?_ ?_
                        · rintro b a w' ⟨gb121, m14_, ha, Q_HO_10, Q_HO_9, Q_BK106, Q_HB, Q_BK121, Q_GW121, Q_GE121, Q_NB106_121, Q_NB121_106, Q_BK121_e15, Q_X14_⟩ hb_ hon hoff
                          refine ⟨_, rfl, fun K hK => ?_⟩
                          have e42 : a.tmps[42]? = some (.int .i64 x12_2) := by rw [ha]; exact (putSel_off rfl).trans rfl
                          have e44 : a.tmps[44]? = some (.int .i64 t115) := by rw [ha]; exact putSel_on (e := (8, 44, .int .i64 t115)) 5 rfl rfl (hon 8 (by kernel_rfl)) rfl
                          replace ha := Aside0.mk ha
                          have HO_10 := Aside0.mk Q_HO_10
                          have HO_9 := Aside0.mk Q_HO_9
                          have BK106 := Aside0.mk Q_BK106
                          have HB := Aside0.mk Q_HB
                          refine value_ (w1 := w') (v := .int .i64 (Go.bits .and .i64 x12_2 t115)) (by rfl) rfl ?_ ?_
                          · go_simp
                            (try simp only [i64_w])
                            try rfl
                          refine hK.out _ _ ⟨gb121, m14_, (by rw [ha.out]; exact putSel_upk 6 hb_ rfl rfl rfl), Q_HO_10, Q_HO_9, Q_BK106, Q_HB, Q_BK121, Q_GW121, Q_GE121, Q_NB106_121, Q_NB121_106, fun h0_ => absurd ((hoff 15 (by kernel_rfl)).symm.trans h0_) (by decide), Q_X14_⟩
                        refine steps_cons ?_ ?_
                        · rintro b a w' ⟨gb121, m14_, ha, Q_HO_10, Q_HO_9, Q_BK106, Q_HB, Q_BK121, Q_GW121, Q_GE121, Q_NB106_121, Q_NB121_106, Q_BK121_e15, Q_X14_⟩ hb_ hon hoff
                          refine ⟨_, rfl, fun K hK => ?_⟩
                          have e36 : a.tmps[36]? = some (.agg #[.int .i64 a0_0, .int .i64 a0_1, .int .i64 a0_2, .int .i64 a0_3]) := by rw [ha]; exact putSel_on (e := (0, 36, .agg #[.int .i64 a0_0, .int .i64 a0_1, .int .i64 a0_2, .int .i64 a0_3])) 0 rfl rfl (hon 0 (by kernel_rfl)) rfl
                          have e41 : a.tmps[41]? = some (.agg #[.int .i64 ((rd_T83 l1 x11_1).f1.f0), .int .i64 ((rd_T83 l1 x11_1).f1.f1), .int .i64 ((rd_T83 l1 x11_1).f1.f2), .int .i64 ((rd_T83 l1 x11_1).f1.f3)]) := by rw [ha]; exact putSel_on (e := (5, 41, .agg #[.int .i64 ((rd_T83 l1 x11_1).f1.f0), .int .i64 ((rd_T83 l1 x11_1).f1.f1), .int .i64 ((rd_T83 l1 x11_1).f1.f2), .int .i64 ((rd_T83 l1 x11_1).f1.f3)])) 3 rfl rfl (hon 5 (by kernel_rfl)) rfl
                          have e45 : a.tmps[45]? = some (.int .i64 (Go.bits .and .i64 x12_2 t115)) := by rw [ha]; exact putSel_on (e := (9, 45, .int .i64 (Go.bits .and .i64 x12_2 t115))) 6 rfl rfl (hon 9 (by kernel_rfl)) rfl
                          replace ha := Aside0.mk ha
                          have HO_10 := Aside0.mk Q_HO_10
                          have HO_9 := Aside0.mk Q_HO_9
                          have BK106 := Aside0.mk Q_BK106
                          have HB := Aside0.mk Q_HB
                          refine goes_ Try.func60 (by kernel_rfl) rfl #[.agg #[.int .i64 a0_0, .int .i64 a0_1, .int .i64 a0_2, .int .i64 a0_3], .agg #[.int .i64 ((rd_T83 l1 x11_1).f1.f0), .int .i64 ((rd_T83 l1 x11_1).f1.f1), .int .i64 ((rd_T83 l1 x11_1).f1.f2), .int .i64 ((rd_T83 l1 x11_1).f1.f3)], .int .i64 (Go.bits .and .i64 x12_2 t115)] (by rfl) rfl rfl (by first | (simp only [List.map_toArray, List.map_cons, List.map_nil, Act.eval, Array.getD_eq_getD_getElem?, Option.getD_some, e36, e41, e45]; done) | (simp only [List.map_toArray, List.map_cons, List.map_nil, Act.eval, Array.getD_eq_getD_getElem?, Option.getD_some, e36, e41, e45]; rfl)) ?_
                          with_reducible refine (xL2Step.calls a0_0 a0_1 a0_2 a0_3 ((rd_T83 l1 x11_1).f1.f0) ((rd_T83 l1 x11_1).f1.f1) ((rd_T83 l1 x11_1).f1.f2) ((rd_T83 l1 x11_1).f1.f3) (Go.bits .and .i64 x12_2 t115) t116 t117 t118 t119 t120 _ A22.out).mono ?_
                          rintro e w27 ⟨rfl, hb⟩
                          refine ⟨_, rfl, ?_⟩
                          have n0_ := Aside0.mk (Kd.R_below (by (with_reducible repeat (first | apply Kd.R_alloc | apply Kd.R_drewN | apply Kd.R_drew)); exact HO_9.out) hb)
                          have n1_ := Aside0.mk (Kd.R_below (by (with_reducible repeat (first | apply Kd.R_alloc | apply Kd.R_drewN | apply Kd.R_drew)); exact HO_10.out) hb)
                          have n2_ := Aside0.mk (blk_below (g := gb106) (o := .cells #[.int .i64 a0_0, .int .i64 a0_1, .int .i64 a0_2, .int .i64 a0_3] 27 (0, 0)) (by (with_reducible repeat (first | refine blk_drewN ?_ _ | refine blk_drew ?_ | refine blk_alloc ?_ _)); exact BK106.out) hb)
                          have n3_ := Aside0.mk (below_step (by repeat (first | (with_reducible first | exact HB.out | apply below_alloc | apply pw_below_drewN | apply below_drew1 | refine below_set ?_ GE106.out) | exact HB.out)) hb)
                          have z_BK121 := fun (h0_ : b 14 = true) (h1_ : b 15 = false) => (show w27.heap[gb121]? = some (.cells #[.int .i64 0, .int .i64 0, .int .i64 0, .int .i64 0] 22 (0, 0)) from by first | exact (blk_below (g := gb121) (o := .cells #[.int .i64 0, .int .i64 0, .int .i64 0, .int .i64 0] 22 (0, 0)) (by (with_reducible repeat (first | refine blk_drewN ?_ _ | refine blk_drew ?_ | refine blk_alloc ?_ _)); exact (Q_BK121 h0_ h1_)) hb))
                          clear HO_9
                          clear HO_10
                          clear BK106
                          clear HB
                          have HO_9 := n0_
                          have HO_10 := n1_
                          have BK106 := n2_
                          have HB := n3_
                          clear n0_ n1_ n2_ n3_
                          (try clear hb)
                          (try clear hb2)
                          (try clear hk)
                          (try clear hi)
                          refine hK.out _ _ ⟨gb121, m14_, (by rw [ha.out]; exact putSel_upk 7 hb_ rfl rfl rfl), (by (with_reducible repeat (first | apply Kd.R_alloc | apply Kd.R_drewN | apply Kd.R_drew)); exact HO_10.out), (by (with_reducible repeat (first | apply Kd.R_alloc | apply Kd.R_drewN | apply Kd.R_drew)); exact HO_9.out), (by (with_reducible repeat (first | refine blk_drewN ?_ _ | refine blk_drew ?_ | refine blk_alloc ?_ _)); exact BK106.out), (by repeat (first | (with_reducible first | exact HB.out | apply below_alloc | apply pw_below_drewN | apply below_drew1 | refine below_set ?_ GE106.out) | exact HB.out)), z_BK121, Q_GW121, Q_GE121, Q_NB106_121, Q_NB121_106, fun h0_ => absurd ((hoff 15 (by kernel_rfl)).symm.trans h0_) (by decide), Q_X14_⟩
                        refine steps_cons ?_ ?_
                        · rintro b a w' ⟨gb121, m14_, ha, Q_HO_10, Q_HO_9, Q_BK106, Q_HB, Q_BK121, Q_GW121, Q_GE121, Q_NB106_121, Q_NB121_106, Q_BK121_e15, Q_X14_⟩ hb_ hon hoff
                          refine ⟨_, rfl, fun K hK => ?_⟩
                          have e46 : a.tmps[46]? = some (.tuple #[.agg #[.int .i64 t116, .int .i64 t117, .int .i64 t118, .int .i64 t119], .int .i64 t120]) := by rw [ha]; exact putSel_on (e := (10, 46, .tuple #[.agg #[.int .i64 t116, .int .i64 t117, .int .i64 t118, .int .i64 t119], .int .i64 t120])) 7 rfl rfl (hon 10 (by kernel_rfl)) rfl
                          replace ha := Aside0.mk ha
                          have HO_10 := Aside0.mk Q_HO_10
                          have HO_9 := Aside0.mk Q_HO_9
                          have BK106 := Aside0.mk Q_BK106
                          have HB := Aside0.mk Q_HB
                          refine value_ (w1 := w') (v := .tuple #[.agg #[.int .i64 t116, .int .i64 t117, .int .i64 t118, .int .i64 t119], .int .i64 t120]) (by rfl) rfl ?_ ?_
                          · go_simp
                            (try simp only [i64_w])
                            try rfl
                          refine hK.out _ _ ⟨gb121, m14_, (by rw [ha.out]; exact putSel_upk 8 hb_ rfl rfl rfl), Q_HO_10, Q_HO_9, Q_BK106, Q_HB, Q_BK121, Q_GW121, Q_GE121, Q_NB106_121, Q_NB121_106, fun h0_ => absurd ((hoff 15 (by kernel_rfl)).symm.trans h0_) (by decide), Q_X14_⟩
                        refine steps_cons ?_ ?_
                        · rintro b a w' ⟨gb121, m14_, ha, Q_HO_10, Q_HO_9, Q_BK106, Q_HB, Q_BK121, Q_GW121, Q_GE121, Q_NB106_121, Q_NB121_106, Q_BK121_e15, Q_X14_⟩ hb_ hon hoff
                          refine ⟨_, rfl, fun K hK => ?_⟩
                          have e35 : a.tmps[35]? = some (.tuple #[.agg #[.int .i64 t116, .int .i64 t117, .int .i64 t118, .int .i64 t119], .int .i64 t120]) := by rw [ha]; exact putSel_on (e := (11, 35, .tuple #[.agg #[.int .i64 t116, .int .i64 t117, .int .i64 t118, .int .i64 t119], .int .i64 t120])) 8 rfl rfl (hon 11 (by kernel_rfl)) rfl
                          replace ha := Aside0.mk ha
                          have HO_10 := Aside0.mk Q_HO_10
                          have HO_9 := Aside0.mk Q_HO_9
                          have BK106 := Aside0.mk Q_BK106
                          have HB := Aside0.mk Q_HB
                          refine value_ (w1 := w') (v := .agg #[.int .i64 t116, .int .i64 t117, .int .i64 t118, .int .i64 t119]) (by rfl) rfl ?_ ?_
                          · go_simp
                            (try simp only [i64_w])
                            try rfl
                          refine hK.out _ _ ⟨gb121, m14_, (by rw [ha.out]; exact putSel_upk 9 hb_ rfl rfl rfl), Q_HO_10, Q_HO_9, Q_BK106, Q_HB, Q_BK121, Q_GW121, Q_GE121, Q_NB106_121, Q_NB121_106, fun h0_ => absurd ((hoff 15 (by kernel_rfl)).symm.trans h0_) (by decide), Q_X14_⟩
                        refine steps_cons ?_ ?_
                        · rintro b a w' ⟨gb121, m14_, ha, Q_HO_10, Q_HO_9, Q_BK106, Q_HB, Q_BK121, Q_GW121, Q_GE121, Q_NB106_121, Q_NB121_106, Q_BK121_e15, Q_X14_⟩ hb_ hon hoff
                          refine ⟨_, rfl, fun K hK => ?_⟩
                          have e35 : a.tmps[35]? = some (.tuple #[.agg #[.int .i64 t116, .int .i64 t117, .int .i64 t118, .int .i64 t119], .int .i64 t120]) := by rw [ha]; exact putSel_on (e := (11, 35, .tuple #[.agg #[.int .i64 t116, .int .i64 t117, .int .i64 t118, .int .i64 t119], .int .i64 t120])) 8 rfl rfl (hon 11 (by kernel_rfl)) rfl
                          replace ha := Aside0.mk ha
                          have HO_10 := Aside0.mk Q_HO_10
                          have HO_9 := Aside0.mk Q_HO_9
                          have BK106 := Aside0.mk Q_BK106
                          have HB := Aside0.mk Q_HB
                          refine value_ (w1 := w') (v := .int .i64 t120) (by rfl) rfl ?_ ?_
                          · go_simp
                            (try simp only [i64_w])
                            try rfl
                          refine hK.out _ _ ⟨gb121, m14_, (by rw [ha.out]; exact putSel_upk 10 hb_ rfl rfl rfl), Q_HO_10, Q_HO_9, Q_BK106, Q_HB, Q_BK121, Q_GW121, Q_GE121, Q_NB106_121, Q_NB121_106, Q_BK121_e15, Q_X14_⟩
                        refine steps_cons ?_ ?_
                        · rintro b a w' ⟨gb121, m14_, ha, Q_HO_10, Q_HO_9, Q_BK106, Q_HB, Q_BK121, Q_GW121, Q_GE121, Q_NB106_121, Q_NB121_106, Q_BK121_e15, Q_X14_⟩ hb_ hon hoff
                          refine ⟨_, rfl, fun K hK => ?_⟩
                          replace ha := Aside0.mk ha
                          have HO_10 := Aside0.mk Q_HO_10
                          have HO_9 := Aside0.mk Q_HO_9
                          have BK106 := Aside0.mk Q_BK106
                          have HB := Aside0.mk Q_HB
                          refine box_step ?hg (N := 13) ?hd (cs := #[.int .i64 0, .int .i64 0, .int .i64 0, .int .i64 0]) (t := 22) ?hr ?_; (case hd => rfl); (case hg => rfl); (case hr => first | (go_simp; done) | (go_simp; rfl))
                          intro gb121 hg w25 hbox hb
                          have n0_ := Aside0.mk (Kd.R_below (by (with_reducible repeat (first | apply Kd.R_alloc | apply Kd.R_drewN | apply Kd.R_drew)); exact HO_9.out) hb)
                          have n1_ := Aside0.mk (Kd.R_below (by (with_reducible repeat (first | apply Kd.R_alloc | apply Kd.R_drewN | apply Kd.R_drew)); exact HO_10.out) hb)
                          have n2_ := Aside0.mk (blk_below (g := gb106) (o := .cells #[.int .i64 a0_0, .int .i64 a0_1, .int .i64 a0_2, .int .i64 a0_3] 27 (0, 0)) (by (with_reducible repeat (first | refine blk_drewN ?_ _ | refine blk_drew ?_ | refine blk_alloc ?_ _)); exact BK106.out) hb)
                          have n3_ := Aside0.mk (below_step (by repeat (first | (with_reducible first | exact HB.out | apply below_alloc | apply pw_below_drewN | apply below_drew1 | refine below_set ?_ GE106.out) | exact HB.out)) hb)
                          have n4_ := Aside0.mk (hbox)
                          have n5_ := Aside0.mk ((by rw [hg]; exact (below_size (by repeat (first | (with_reducible first | exact HB.out | apply below_alloc | apply pw_below_drewN | apply below_drew1 | refine below_set ?_ GE106.out) | exact HB.out))) : w.heap.size ≤ gb121))
                          have n6_ := Aside0.mk ((by rw [hg]; exact (below_size (by repeat (first | (with_reducible first | exact HB.out | apply below_alloc | apply pw_below_drewN | apply below_drew1 | refine below_set ?_ GE106.out) | exact HB.out))) : w.heap.size ≤ gb121))
                          have n7_ := Aside0.mk ((by rw [hg]; exact Nat.ne_of_lt (blk_lt (g := gb106) (o := .cells #[.int .i64 a0_0, .int .i64 a0_1, .int .i64 a0_2, .int .i64 a0_3] 27 (0, 0)) (by (with_reducible repeat (first | refine blk_drewN ?_ _ | refine blk_drew ?_ | refine blk_alloc ?_ _)); exact BK106.out)) : gb106 ≠ gb121))
                          have n8_ := Aside0.mk ((by rw [hg]; exact Nat.ne_of_gt (blk_lt (g := gb106) (o := .cells #[.int .i64 a0_0, .int .i64 a0_1, .int .i64 a0_2, .int .i64 a0_3] 27 (0, 0)) (by (with_reducible repeat (first | refine blk_drewN ?_ _ | refine blk_drew ?_ | refine blk_alloc ?_ _)); exact BK106.out)) : gb121 ≠ gb106))
                          clear HO_9
                          clear HO_10
                          clear BK106
                          clear HB
                          have HO_9 := n0_
                          have HO_10 := n1_
                          have BK106 := n2_
                          have HB := n3_
                          have BK121 := n4_
                          have GW121 := n5_
                          have GE121 := n6_
                          have NB106_121 := n7_
                          have NB121_106 := n8_
                          clear n0_ n1_ n2_ n3_ n4_ n5_ n6_ n7_ n8_
                          clear hb hbox hg
                          refine hK.out _ _ ⟨gb121, (.pointer (some ⟨gb121, 0, none⟩)), (by rw [ha.out]; exact putSel_upk 11 hb_ rfl rfl rfl), (by (with_reducible repeat (first | apply Kd.R_alloc | apply Kd.R_drewN | apply Kd.R_drew)); exact HO_10.out), (by (with_reducible repeat (first | apply Kd.R_alloc | apply Kd.R_drewN | apply Kd.R_drew)); exact HO_9.out), (by (with_reducible repeat (first | refine blk_drewN ?_ _ | refine blk_drew ?_ | refine blk_alloc ?_ _)); exact BK106.out), (by repeat (first | (with_reducible first | exact HB.out | apply below_alloc | apply pw_below_drewN | apply below_drew1 | refine below_set ?_ GE106.out | refine below_set ?_ GE121.out) | exact HB.out)), fun _ _ => (by (with_reducible repeat (first | refine blk_drewN ?_ _ | refine blk_drew ?_ | refine blk_alloc ?_ _)); exact BK121.out), fun _ => GW121.out, fun _ => GE121.out, fun _ => NB106_121.out, fun _ => NB121_106.out, fun h0_ => absurd ((hoff 15 (by kernel_rfl)).symm.trans h0_) (by decide), fun _ => rfl⟩
                        refine steps_cons ?_ ?_
                        · rintro b a w' ⟨gb121, m14_, ha, Q_HO_10, Q_HO_9, Q_BK106, Q_HB, Q_BK121, Q_GW121, Q_GE121, Q_NB106_121, Q_NB121_106, Q_BK121_e15, Q_X14_⟩ hb_ hon hoff
                          refine ⟨_, rfl, fun K hK => ?_⟩
                          have e13 : a.tmps[13]? = some (m14_) := by rw [ha]; exact putSel_on (e := (14, 13, m14_)) 11 rfl rfl (hon 14 (by kernel_rfl)) rfl
                          rw [Q_X14_ (hon 14 (by kernel_rfl))] at e13
                          have e47 : a.tmps[47]? = some (.agg #[.int .i64 t116, .int .i64 t117, .int .i64 t118, .int .i64 t119]) := by rw [ha]; exact putSel_on (e := (12, 47, .agg #[.int .i64 t116, .int .i64 t117, .int .i64 t118, .int .i64 t119])) 9 rfl rfl (hon 12 (by kernel_rfl)) rfl
                          replace ha := Aside0.mk ha
                          have HO_10 := Aside0.mk Q_HO_10
                          have HO_9 := Aside0.mk Q_HO_9
                          have BK106 := Aside0.mk Q_BK106
                          have HB := Aside0.mk Q_HB
                          have BK121 := Aside0.mk (Q_BK121 (hon 14 (by kernel_rfl)) hb_)
                          have GW121 := Aside0.mk (Q_GW121 (hon 14 (by kernel_rfl)))
                          have GE121 := Aside0.mk (Q_GE121 (hon 14 (by kernel_rfl)))
                          have NB106_121 := Aside0.mk (Q_NB106_121 (hon 14 (by kernel_rfl)))
                          have NB121_106 := Aside0.mk (Q_NB121_106 (hon 14 (by kernel_rfl)))
                          have hs29 : w'.cell? ⟨gb121, 0, none⟩ = some (.int .i64 0) := (blk_cell BK121.out 0).trans rfl
                          have hfs29 := blk_frozen BK121.out 0
                          have hns29_0 := NB106_121.out
                          have hms29_0 := NB121_106.out
                          have hs30 : w'.cell? ⟨gb121, 1, none⟩ = some (.int .i64 0) := (blk_cell BK121.out 1).trans rfl
                          have hfs30 := blk_frozen BK121.out 1
                          have hns30_0 := NB106_121.out
                          have hms30_0 := NB121_106.out
                          have hs31 : w'.cell? ⟨gb121, 2, none⟩ = some (.int .i64 0) := (blk_cell BK121.out 2).trans rfl
                          have hfs31 := blk_frozen BK121.out 2
                          have hns31_0 := NB106_121.out
                          have hms31_0 := NB121_106.out
                          have hs32 : w'.cell? ⟨gb121, 3, none⟩ = some (.int .i64 0) := (blk_cell BK121.out 3).trans rfl
                          have hfs32 := blk_frozen BK121.out 3
                          have hns32_0 := NB106_121.out
                          have hms32_0 := NB121_106.out
                          refine skip_ (w1 := ?_) (by rfl) rfl ?_ ?_
                          rotate_left
                          · go_simp
                            rfl
                          refine hK.out _ _ ⟨gb121, m14_, (by rw [ha.out]; exact putSel_none (v := undef) rfl), (by (with_reducible repeat (first | apply Kd.R_alloc | apply Kd.R_drewN | apply Kd.R_drew)); exact Kd.R_mono (Kd.R_far (p := ⟨gb121, 3, none⟩) (Kd.R_far (p := ⟨gb121, 2, none⟩) (Kd.R_far (p := ⟨gb121, 1, none⟩) (Kd.R_far (p := ⟨gb121, 0, none⟩) (Kd.R_types HO_10.out BK121.out (by decide)) (fun _ hk => hk.2) (.int .i64 t116)) (fun _ hk => hk.2) (.int .i64 t117)) (fun _ hk => hk.2) (.int .i64 t118)) (fun _ hk => hk.2) (.int .i64 t119)) (fun _ hk => trivial)), (by (with_reducible repeat (first | apply Kd.R_alloc | apply Kd.R_drewN | apply Kd.R_drew)); exact Kd.R_mono (Kd.R_far (p := ⟨gb121, 3, none⟩) (Kd.R_far (p := ⟨gb121, 2, none⟩) (Kd.R_far (p := ⟨gb121, 1, none⟩) (Kd.R_far (p := ⟨gb121, 0, none⟩) (Kd.R_types HO_9.out BK121.out (by decide)) (fun _ hk => hk.2) (.int .i64 t116)) (fun _ hk => hk.2) (.int .i64 t117)) (fun _ hk => hk.2) (.int .i64 t118)) (fun _ hk => hk.2) (.int .i64 t119)) (fun _ hk => trivial)), (by (with_reducible repeat (first | refine blk_drewN ?_ _ | refine blk_drew ?_ | refine blk_alloc ?_ _)); refine blk_far ?_ NB106_121.out _; (with_reducible repeat (first | refine blk_drewN ?_ _ | refine blk_drew ?_ | refine blk_alloc ?_ _)); refine blk_far ?_ NB106_121.out _; (with_reducible repeat (first | refine blk_drewN ?_ _ | refine blk_drew ?_ | refine blk_alloc ?_ _)); refine blk_far ?_ NB106_121.out _; (with_reducible repeat (first | refine blk_drewN ?_ _ | refine blk_drew ?_ | refine blk_alloc ?_ _)); refine blk_far ?_ NB106_121.out _; (with_reducible repeat (first | refine blk_drewN ?_ _ | refine blk_drew ?_ | refine blk_alloc ?_ _)); exact BK106.out), (by repeat (first | (with_reducible first | exact HB.out | apply below_alloc | apply pw_below_drewN | apply below_drew1 | refine below_set ?_ GE106.out | refine below_set ?_ GE121.out) | exact HB.out)), fun _ h1_ => absurd ((up_self b 15).symm.trans h1_) (by decide), fun _ => GW121.out, fun _ => GE121.out, fun _ => NB106_121.out, fun _ => NB121_106.out, fun _ => (by (with_reducible repeat (first | refine blk_drewN ?_ _ | refine blk_drew ?_ | refine blk_alloc ?_ _)); refine blk_put (cs := #[.int .i64 t116, .int .i64 t117, .int .i64 t118, .int .i64 0]) ?_ 3 _ rfl; (with_reducible repeat (first | refine blk_drewN ?_ _ | refine blk_drew ?_ | refine blk_alloc ?_ _)); refine blk_put (cs := #[.int .i64 t116, .int .i64 t117, .int .i64 0, .int .i64 0]) ?_ 2 _ rfl; (with_reducible repeat (first | refine blk_drewN ?_ _ | refine blk_drew ?_ | refine blk_alloc ?_ _)); refine blk_put (cs := #[.int .i64 t116, .int .i64 0, .int .i64 0, .int .i64 0]) ?_ 1 _ rfl; (with_reducible repeat (first | refine blk_drewN ?_ _ | refine blk_drew ?_ | refine blk_alloc ?_ _)); refine blk_put (cs := #[.int .i64 0, .int .i64 0, .int .i64 0, .int .i64 0]) ?_ 0 _ rfl; (with_reducible repeat (first | refine blk_drewN ?_ _ | refine blk_drew ?_ | refine blk_alloc ?_ _)); exact BK121.out), Q_X14_⟩
                        refine steps_cons ?_ ?_
                        · rintro b a w' ⟨gb121, m14_, ha, Q_HO_10, Q_HO_9, Q_BK106, Q_HB, Q_BK121, Q_GW121, Q_GE121, Q_NB106_121, Q_NB121_106, Q_BK121_e15, Q_X14_⟩ hb_ hon hoff
                          refine ⟨_, rfl, fun K hK => ?_⟩
                          have e48 : a.tmps[48]? = some (.int .i64 t120) := by rw [ha]; exact putSel_on (e := (13, 48, .int .i64 t120)) 10 rfl rfl (hon 13 (by kernel_rfl)) rfl
                          replace ha := Aside0.mk ha
                          have HO_10 := Aside0.mk Q_HO_10
                          have HO_9 := Aside0.mk Q_HO_9
                          have BK106 := Aside0.mk Q_BK106
                          have HB := Aside0.mk Q_HB
                          have GW121 := Aside0.mk (Q_GW121 (hon 14 (by kernel_rfl)))
                          have GE121 := Aside0.mk (Q_GE121 (hon 14 (by kernel_rfl)))
                          have NB106_121 := Aside0.mk (Q_NB106_121 (hon 14 (by kernel_rfl)))
                          have NB121_106 := Aside0.mk (Q_NB121_106 (hon 14 (by kernel_rfl)))
                          have BK121 := Aside0.mk (Q_BK121_e15 (hon 15 (by kernel_rfl)))
                          refine value_ (w1 := w') (v := .int .i64 t120) (by rfl) rfl ?_ ?_
                          · go_simp
                            (try simp only [i64_w])
                            try rfl
                          refine hK.out _ _ ⟨gb121, m14_, (by rw [ha.out]; exact putSel_upk 12 hb_ rfl rfl rfl), Q_HO_10, Q_HO_9, Q_BK106, Q_HB, fun _ h1_ => absurd ((hon 15 (by kernel_rfl)).symm.trans h1_) (by decide), Q_GW121, Q_GE121, Q_NB106_121, Q_NB121_106, Q_BK121_e15, Q_X14_⟩
                        exact steps_nil
                      rintro b a w32 hall ⟨gb121, m14_, ha, Q_HO_10, Q_HO_9, Q_BK106, Q_HB, Q_BK121, Q_GW121, Q_GE121, Q_NB106_121, Q_NB121_106, Q_BK121_e15, Q_X14_⟩
                      clear BK106 HB HO_10 HO_9
                      have hb0_ := hall 0 (by kernel_rfl)
                      have hb3_ := hall 3 (by kernel_rfl)
                      have hb4_ := hall 4 (by kernel_rfl)
                      have hb5_ := hall 5 (by kernel_rfl)
                      have hb7_ := hall 7 (by kernel_rfl)
                      have hb8_ := hall 8 (by kernel_rfl)
                      have hb9_ := hall 9 (by kernel_rfl)
                      have hb10_ := hall 10 (by kernel_rfl)
                      have hb11_ := hall 11 (by kernel_rfl)
                      have hb12_ := hall 12 (by kernel_rfl)
                      have hb13_ := hall 13 (by kernel_rfl)
                      have hb14_ := hall 14 (by kernel_rfl)
                      have hb15_ := hall 15 (by kernel_rfl)
                      have hb16_ := hall 16 (by kernel_rfl)
                      subst ha
                      obtain rfl := (Q_X14_ hb14_).symm
                      simp only [putSel, hb0_, hb3_, hb4_, hb5_, hb7_, hb8_, hb9_, hb10_, hb11_, hb12_, hb13_, hb14_, hb15_, hb16_, if_true, Act.put, List.setIfInBounds_toArray, List.set_cons_zero, List.set_cons_succ]
                      have HO_10 := Aside0.mk Q_HO_10
                      clear Q_HO_10
                      have HO_9 := Aside0.mk Q_HO_9
                      clear Q_HO_9
                      have BK106 := Aside0.mk Q_BK106
                      clear Q_BK106
                      have HB := Aside0.mk Q_HB
                      clear Q_HB
                      clear Q_BK121
                      have GW121 := Aside0.mk (Q_GW121 hb14_)
                      clear Q_GW121
                      have GE121 := Aside0.mk (Q_GE121 hb14_)
                      clear Q_GE121
                      have NB106_121 := Aside0.mk (Q_NB106_121 hb14_)
                      clear Q_NB106_121
                      have NB121_106 := Aside0.mk (Q_NB121_106 hb14_)
                      clear Q_NB121_106
                      have BK121 := Aside0.mk (Q_BK121_e15 hb15_)
                      clear Q_BK121_e15
                      clear hall hb0_ hb3_ hb4_ hb5_ hb7_ hb8_ hb9_ hb10_ hb11_ hb12_ hb13_ hb14_ hb15_ hb16_
                      try go_wp2
                      have n0_ := Aside0.mk (Kd.R_drew HO_9.out)
                      have n1_ := Aside0.mk (Kd.R_drew HO_10.out)
                      have n2_ := Aside0.mk (blk_drew BK106.out)
                      have n3_ := Aside0.mk (blk_drew BK121.out)
                      have n4_ := Aside0.mk (below_drew1 HB.out)
                      clear HO_9
                      clear HO_10
                      clear BK106
                      clear BK121
                      clear HB
                      have HO_9 := n0_
                      have HO_10 := n1_
                      have BK106 := n2_
                      have BK121 := n3_
                      have HB := n4_
                      clear n0_ n1_ n2_ n3_ n4_
                      have p122 : 0 ≤ (x11_1 : Int) := of_decide_eq_true (by first | (with_reducible assumption) | assumption)
                      have q122 : x11_1 < (l1.length : Int) := of_decide_eq_true (by first | (with_reducible assumption) | assumption)
                      obtain ⟨ad122, e122, hx122_0, hx122_1, hx122_2, hx122_3, hx122_4, hx122_5⟩ := at_T83 HR1.out x11_1 p122 q122
                      have hw122_5 := hx122_5
                      have hw122_4 := hx122_4
                      have hw122_3 := hx122_3
                      have hw122_2 := hx122_2
                      have hw122_1 := hx122_1
                      have hw122_0 := hx122_0
                      obtain rfl : ad114 = ad122 := (by injection e122)
                      replace hx122_0 := (HB.out.cell (World.block_lt_of_cell? w _ hx122_0)).trans hx122_0
                      replace hx122_1 := (HB.out.cell (World.block_lt_of_cell? w _ hx122_1)).trans hx122_1
                      replace hx122_2 := (HB.out.cell (World.block_lt_of_cell? w _ hx122_2)).trans hx122_2
                      replace hx122_3 := (HB.out.cell (World.block_lt_of_cell? w _ hx122_3)).trans hx122_3
                      replace hx122_4 := (HB.out.cell (World.block_lt_of_cell? w _ hx122_4)).trans hx122_4
                      replace hx122_5 := (HB.out.cell (World.block_lt_of_cell? w _ hx122_5)).trans hx122_5
                      replace p122 := eq_true p122
                      replace q122 := eq_true q122
                      have p123 : 0 ≤ (x11_1 : Int) := of_decide_eq_true (by first | (with_reducible assumption) | assumption)
                      have q123 : x11_1 < (l1.length : Int) := of_decide_eq_true (by first | (with_reducible assumption) | assumption)
                      obtain ⟨ad123, e123, hx123_0, hx123_1, hx123_2, hx123_3, hx123_4, hx123_5⟩ := at_T83 HR1.out x11_1 p123 q123
                      have hw123_5 := hx123_5
                      have hw123_4 := hx123_4
                      have hw123_3 := hx123_3
                      have hw123_2 := hx123_2
                      have hw123_1 := hx123_1
                      have hw123_0 := hx123_0
                      obtain rfl : ad114 = ad123 := (by injection e123)
                      replace hx123_0 := (HB.out.cell (World.block_lt_of_cell? w _ hx123_0)).trans hx123_0
                      replace hx123_1 := (HB.out.cell (World.block_lt_of_cell? w _ hx123_1)).trans hx123_1
                      replace hx123_2 := (HB.out.cell (World.block_lt_of_cell? w _ hx123_2)).trans hx123_2
                      replace hx123_3 := (HB.out.cell (World.block_lt_of_cell? w _ hx123_3)).trans hx123_3
                      replace hx123_4 := (HB.out.cell (World.block_lt_of_cell? w _ hx123_4)).trans hx123_4
                      replace hx123_5 := (HB.out.cell (World.block_lt_of_cell? w _ hx123_5)).trans hx123_5
                      replace p123 := eq_true p123
                      replace q123 := eq_true q123
                      refine start_ (n := 14) (S := fun w' => w'.cell? (ad114.add ((x11_1).toNat * 6)) = some (.int .i64 ((rd_T83 l1 x11_1).f0)) ∧ w'.cell? ⟨(ad114.add ((x11_1).toNat * 6)).block, (ad114.add ((x11_1).toNat * 6)).off + 1, none⟩ = some (.int .i64 ((rd_T83 l1 x11_1).f1.f0)) ∧ w'.cell? ⟨(ad114.add ((x11_1).toNat * 6)).block, (ad114.add ((x11_1).toNat * 6)).off + 2, none⟩ = some (.int .i64 ((rd_T83 l1 x11_1).f1.f1)) ∧ w'.cell? ⟨(ad114.add ((x11_1).toNat * 6)).block, (ad114.add ((x11_1).toNat * 6)).off + 3, none⟩ = some (.int .i64 ((rd_T83 l1 x11_1).f1.f2)) ∧ w'.cell? ⟨(ad114.add ((x11_1).toNat * 6)).block, (ad114.add ((x11_1).toNat * 6)).off + 4, none⟩ = some (.int .i64 ((rd_T83 l1 x11_1).f1.f3)) ∧ w'.cell? ⟨(ad114.add ((x11_1).toNat * 6)).block, (ad114.add ((x11_1).toNat * 6)).off + 5, none⟩ = some (.int .i64 ((rd_T83 l1 x11_1).f2)) ∧ w'.cell? (ad114.add ((x11_1).toNat * 6)) = some (.int .i64 ((rd_T83 l1 x11_1).f0)) ∧ w'.cell? ⟨(ad114.add ((x11_1).toNat * 6)).block, (ad114.add ((x11_1).toNat * 6)).off + 1, none⟩ = some (.int .i64 ((rd_T83 l1 x11_1).f1.f0)) ∧ w'.cell? ⟨(ad114.add ((x11_1).toNat * 6)).block, (ad114.add ((x11_1).toNat * 6)).off + 2, none⟩ = some (.int .i64 ((rd_T83 l1 x11_1).f1.f1)) ∧ w'.cell? ⟨(ad114.add ((x11_1).toNat * 6)).block, (ad114.add ((x11_1).toNat * 6)).off + 3, none⟩ = some (.int .i64 ((rd_T83 l1 x11_1).f1.f2)) ∧ w'.cell? ⟨(ad114.add ((x11_1).toNat * 6)).block, (ad114.add ((x11_1).toNat * 6)).off + 4, none⟩ = some (.int .i64 ((rd_T83 l1 x11_1).f1.f3)) ∧ w'.cell? ⟨(ad114.add ((x11_1).toNat * 6)).block, (ad114.add ((x11_1).toNat * 6)).off + 5, none⟩ = some (.int .i64 ((rd_T83 l1 x11_1).f2))) (ds := []) #[false, false, false, false, false, false, false, false, false, false, false, false, false, false] (by kernel_rfl) rfl rfl ⟨((HB.out.cell (World.block_lt_of_cell? w _ hw122_0)).trans hw122_0), ((HB.out.cell (World.block_lt_of_cell? w _ hw122_1)).trans hw122_1), ((HB.out.cell (World.block_lt_of_cell? w _ hw122_2)).trans hw122_2), ((HB.out.cell (World.block_lt_of_cell? w _ hw122_3)).trans hw122_3), ((HB.out.cell (World.block_lt_of_cell? w _ hw122_4)).trans hw122_4), ((HB.out.cell (World.block_lt_of_cell? w _ hw122_5)).trans hw122_5), ((HB.out.cell (World.block_lt_of_cell? w _ hw123_0)).trans hw123_0), ((HB.out.cell (World.block_lt_of_cell? w _ hw123_1)).trans hw123_1), ((HB.out.cell (World.block_lt_of_cell? w _ hw123_2)).trans hw123_2), ((HB.out.cell (World.block_lt_of_cell? w _ hw123_3)).trans hw123_3), ((HB.out.cell (World.block_lt_of_cell? w _ hw123_4)).trans hw123_4), ((HB.out.cell (World.block_lt_of_cell? w _ hw123_5)).trans hw123_5)⟩ (fun hHeld => ?_); refine with_tabW spec_l3Next.tab9 spec_l3Next.bits9 (fun HT_ HW_ => ?_)
                      generalize w32.drew = w33 at HO_9 HO_10 BK106 BK121 HB hx122_0 hx122_1 hx122_2 hx122_3 hx122_4 hx122_5 hx123_0 hx123_1 hx123_2 hx123_3 hx123_4 hx123_5 hHeld ⊢
                      refine pure_ (i := 0) (N := some 49) (v := ?_) (a' := ?_) #[true, false, false, false, false, false, false, false, false, false, false, false, false, false] rfl rfl (any_of HT_.out (by kernel_rfl)) (fun _ _ _ h => h) (Or.inl ⟨by rfl, ?_⟩) ?_ ?_
                      rotate_left
                      · intro w'
                        go_simp
                        with_reducible rfl
                      rotate_left
                      · simp only [Act.put, List.setIfInBounds_toArray, List.set_cons_zero, List.set_cons_succ, i64_w, i32_w]
                        rfl
                      refine pure_ (i := 1) (N := some 50) (v := ?_) (a' := ?_) #[true, true, false, false, false, false, false, false, false, false, false, false, false, false] rfl rfl (any_of HT_.out (by kernel_rfl)) (fun _ _ _ h => h) (Or.inl ⟨by rfl, ?_⟩) ?_ ?_
                      rotate_left
                      · intro w'
                        go_simp
                        with_reducible rfl
                      rotate_left
                      · simp only [Act.put, List.setIfInBounds_toArray, List.set_cons_zero, List.set_cons_succ, i64_w, i32_w]
                        rfl
                      refine pure_ (i := 2) (N := some 51) (v := ?_) (a' := ?_) #[true, true, true, false, false, false, false, false, false, false, false, false, false, false] rfl rfl (any_of HT_.out (by kernel_rfl)) (fun _ _ _ h => h) (Or.inl ⟨by rfl, ?_⟩) ?_ ?_
                      rotate_left
                      · intro w'
                        go_simp
                        with_reducible rfl
                      rotate_left
                      · simp only [Act.put, List.setIfInBounds_toArray, List.set_cons_zero, List.set_cons_succ, i64_w, i32_w]
                        rfl
                      refine pure_ (i := 3) (N := some 52) (v := ?_) (a' := ?_) #[true, true, true, true, false, false, false, false, false, false, false, false, false, false] rfl rfl (any_of HT_.out (by kernel_rfl)) (fun _ _ _ h => h) (Or.inl ⟨by rfl, ?_⟩) ?_ ?_
                      rotate_left
                      · intro w'
                        go_simp
                        with_reducible rfl
                      rotate_left
                      · simp only [Act.put, List.setIfInBounds_toArray, List.set_cons_zero, List.set_cons_succ, i64_w, i32_w]
                        rfl
                      refine pure_ (i := 5) (N := some 54) (v := ?_) (a' := ?_) #[true, true, true, true, false, true, false, false, false, false, false, false, false, false] rfl rfl (any_of HT_.out (by kernel_rfl)) (fun _ _ _ h => h) (Or.inl ⟨by rfl, ?_⟩) ?_ ?_
                      rotate_left
                      · intro w'
                        go_simp
                        with_reducible rfl
                      rotate_left
                      · simp only [Act.put, List.setIfInBounds_toArray, List.set_cons_zero, List.set_cons_succ, i64_w, i32_w]
                        rfl
                      refine pure_ (i := 7) (N := some 56) (v := ?_) (a' := ?_) #[true, true, true, true, false, true, false, true, false, false, false, false, false, false] rfl rfl (any_of HT_.out (by kernel_rfl)) (fun _ _ _ h => h) (Or.inl ⟨by rfl, ?_⟩) ?_ ?_
                      rotate_left
                      · intro w'
                        go_simp
                        with_reducible rfl
                      rotate_left
                      · simp only [Act.put, List.setIfInBounds_toArray, List.set_cons_zero, List.set_cons_succ, i64_w, i32_w]
                        rfl
                      refine pure_ (i := 8) (N := some 57) (v := ?_) (a' := ?_) #[true, true, true, true, false, true, false, true, true, false, false, false, false, false] rfl rfl (any_of HT_.out (by kernel_rfl)) (fun _ _ _ h => h) (Or.inl ⟨by rfl, ?_⟩) ?_ ?_
                      rotate_left
                      · intro w'
                        go_simp
                        with_reducible rfl
                      rotate_left
                      · simp only [Act.put, List.setIfInBounds_toArray, List.set_cons_zero, List.set_cons_succ, i64_w, i32_w]
                        rfl
                      refine pure_ (i := 9) (N := some 58) (v := ?_) (a' := ?_) #[true, true, true, true, false, true, false, true, true, true, false, false, false, false] rfl rfl (any_of HT_.out (by kernel_rfl)) (fun _ _ _ h => h) (Or.inl ⟨by rfl, ?_⟩) ?_ ?_
                      rotate_left
                      · intro w'
                        go_simp
                        with_reducible rfl
                      rotate_left
                      · simp only [Act.put, List.setIfInBounds_toArray, List.set_cons_zero, List.set_cons_succ, i64_w, i32_w]
                        rfl
                      refine pure_ (i := 10) (N := some 59) (v := ?_) (a' := ?_) #[true, true, true, true, false, true, false, true, true, true, true, false, false, false] rfl rfl (any_of HT_.out (by kernel_rfl)) (fun _ _ _ h => h) (Or.inl ⟨by rfl, ?_⟩) ?_ ?_
                      rotate_left
                      · intro w'
                        go_simp
                        with_reducible rfl
                      rotate_left
                      · simp only [Act.put, List.setIfInBounds_toArray, List.set_cons_zero, List.set_cons_succ, i64_w, i32_w]
                        rfl
                      refine take_ (i := 4) (N := some 53) (v := ?_) (a' := ?_) #[true, true, true, true, true, true, false, true, true, true, true, false, false, false] rfl rfl (take_ofW HT_.out HW_.out (by kernel_rfl)) (fun _ _ _ h => h) (Or.inl ⟨by rfl, ?_⟩) hHeld ?_ ?_
                      rotate_left
                      · rintro w' ⟨s0, s1, s2, s3, s4, s5, s6, s7, s8, s9, s10, s11⟩
                        go_simp
                        with_reducible rfl
                      rotate_left
                      · simp only [Act.put, List.setIfInBounds_toArray, List.set_cons_zero, List.set_cons_succ, i64_w, i32_w]
                        rfl
                      refine pure_ (i := 6) (N := some 55) (v := ?_) (a' := ?_) #[true, true, true, true, true, true, true, true, true, true, true, false, false, false] rfl rfl (any_of HT_.out (by kernel_rfl)) (fun _ _ _ h => h) (Or.inl ⟨by rfl, ?_⟩) ?_ ?_
                      rotate_left
                      · intro w'
                        go_simp
                        with_reducible rfl
                      rotate_left
                      · simp only [Act.put, List.setIfInBounds_toArray, List.set_cons_zero, List.set_cons_succ, i64_w, i32_w]
                        rfl
                      refine pure_ (i := 12) (N := some 15) (v := ?_) (a' := ?_) #[true, true, true, true, true, true, true, true, true, true, true, false, true, false] rfl rfl (any_of HT_.out (by kernel_rfl)) (fun _ _ _ h => h) (Or.inl ⟨by rfl, ?_⟩) ?_ ?_
                      rotate_left
                      · intro w'
                        go_simp
                        with_reducible rfl
                      rotate_left
                      · simp only [Act.put, List.setIfInBounds_toArray, List.set_cons_zero, List.set_cons_succ, i64_w, i32_w]
                        rfl
                      refine take_ (i := 11) (N := some 60) (v := ?_) (a' := ?_) #[true, true, true, true, true, true, true, true, true, true, true, true, true, false] rfl rfl (take_ofW HT_.out HW_.out (by kernel_rfl)) (fun _ _ _ h => h) (Or.inl ⟨by rfl, ?_⟩) hHeld ?_ ?_
                      rotate_left
                      · rintro w' ⟨s0, s1, s2, s3, s4, s5, s6, s7, s8, s9, s10, s11⟩
                        go_simp
                        with_reducible rfl
                      rotate_left
                      · simp only [Act.put, List.setIfInBounds_toArray, List.set_cons_zero, List.set_cons_succ, i64_w, i32_w]
                        rfl
                      refine pure_ (i := 13) (N := some 16) (v := ?_) (a' := ?_) #[true, true, true, true, true, true, true, true, true, true, true, true, true, true] rfl rfl (any_of HT_.out (by kernel_rfl)) (fun _ _ _ h => h) (Or.inl ⟨by rfl, ?_⟩) ?_ ?_
                      rotate_left
                      · intro w'
                        go_simp
                        with_reducible rfl
                      rotate_left
                      · simp only [Act.put, List.setIfInBounds_toArray, List.set_cons_zero, List.set_cons_succ, i64_w, i32_w]
                        rfl
                      refine done_ (done_of HT_.out (by kernel_rfl)) ?_
                      go_upto_region 10 with (fail)
                      go_cut [73] (fun v73 wc => ∃ (kq : Nat) (x73_22 : Bool), v73 = .bool x73_22 ∧ Aside0 (spec_l3Next.j2 kq l1 a2 a3 x9_2 x10_2 x11_1 x12_2 (wrap64 (((rd_T83 l1 x11_1).f0) + t120)) ((rd_T83 l1 x11_1).f2) x73_22 a0_0 a0_1 a0_2 a0_3 t116 t117 t118 t119 = some r) ∧ Aside0 (kq ≤ k2) ∧ Aside0 (Kd.R k83 83 wc w.heap.size (fun _ => True) u9 x9_2) ∧ Aside0 (Kd.R (Kd.int .i64) 3 wc w.heap.size (fun _ => True) v112 x10_2) ∧ Aside0 (wc.heap[gb106]? = some (.cells #[.int .i64 a0_0, .int .i64 a0_1, .int .i64 a0_2, .int .i64 a0_3] 27 (0, 0))) ∧ Aside0 (wc.heap[gb121]? = some (.cells #[.int .i64 t116, .int .i64 t117, .int .i64 t118, .int .i64 t119] 22 (0, 0))) ∧ Aside0 (Below w.heap.size w wc))
                      case first =>
                        have H := HC23.out
                        clear HC23
                        replace H := Option.bind_eq_some_iff.mp H
                        obtain ⟨t124, A340, H⟩ := H
                        replace H : (if t124 = true then (if t120 = 0 then (spec_l3Next.j2 k2 l1 a2 a3 x9_2 x10_2 x11_1 x12_2 (wrap64 (((rd_T83 l1 x11_1).f0) + t120)) ((rd_T83 l1 x11_1).f2) true a0_0 a0_1 a0_2 a0_3 t116 t117 t118 t119) else (spec_l3Next.j2 k2 l1 a2 a3 x9_2 x10_2 x11_1 x12_2 (wrap64 (((rd_T83 l1 x11_1).f0) + t120)) ((rd_T83 l1 x11_1).f2) (decide ((wrap64 (((rd_T83 l1 x11_1).f0) + t120)) > a2)) a0_0 a0_1 a0_2 a0_3 t116 t117 t118 t119)) else (spec_l3Next.j2 k2 l1 a2 a3 x9_2 x10_2 x11_1 x12_2 (wrap64 (((rd_T83 l1 x11_1).f0) + t120)) ((rd_T83 l1 x11_1).f2) true a0_0 a0_1 a0_2 a0_3 t116 t117 t118 t119)) = some r := H
                        have A34 := Aside0.mk A340
                        clear A340
                        by_cases c35 : t124 = true
                        · subst c35
                          have H1 : (if t120 = 0 then (spec_l3Next.j2 k2 l1 a2 a3 x9_2 x10_2 x11_1 x12_2 (wrap64 (((rd_T83 l1 x11_1).f0) + t120)) ((rd_T83 l1 x11_1).f2) true a0_0 a0_1 a0_2 a0_3 t116 t117 t118 t119) else (spec_l3Next.j2 k2 l1 a2 a3 x9_2 x10_2 x11_1 x12_2 (wrap64 (((rd_T83 l1 x11_1).f0) + t120)) ((rd_T83 l1 x11_1).f2) (decide ((wrap64 (((rd_T83 l1 x11_1).f0) + t120)) > a2)) a0_0 a0_1 a0_2 a0_3 t116 t117 t118 t119)) = some r := by rw [if_pos rfl] at H; exact H
                          clear H
                          have H := H1
                          clear H1
                          by_cases c36 : t120 = 0
                          · rw [if_pos c36] at H
                            have c36b0 : (t120 == 0) = true := beq_iff_eq.mpr c36
                            have c36b1 : (t120 != 0) = false := bne_eq_false_iff_eq.mpr c36
                            clear c36
                            (first | rw [c36b0] | (simp only [i64_w, i32_w]; rw [c36b0]) | skip)
                            have H' := Aside0.mk H
                            clear H
                            have hnb37 := NB106_121.out
                            have hnc37 := NB121_106.out
                            have hcz38_0 : w33.cell? ⟨gb106, 0, none⟩ = some (.int .i64 a0_0) := (blk_cell BK106.out 0).trans rfl
                            have hcz38_1 : w33.cell? ⟨gb106, 1, none⟩ = some (.int .i64 a0_1) := (blk_cell BK106.out 1).trans rfl
                            have hcz38_2 : w33.cell? ⟨gb106, 2, none⟩ = some (.int .i64 a0_2) := (blk_cell BK106.out 2).trans rfl
                            have hcz38_3 : w33.cell? ⟨gb106, 3, none⟩ = some (.int .i64 a0_3) := (blk_cell BK106.out 3).trans rfl
                            have hfz38_0 := blk_frozen BK106.out 0
                            have hfz38_1 := blk_frozen BK106.out 1
                            have hfz38_2 := blk_frozen BK106.out 2
                            have hfz38_3 := blk_frozen BK106.out 3
                            go_wp2_with (first | ((with_reducible refine gate_callee (f := 61) rfl ?_); refine goesL_ (some 63) rfl rfl Try.func61 (by kernel_rfl) rfl #[.agg #[.int .i64 a0_0, .int .i64 a0_1, .int .i64 a0_2, .int .i64 a0_3], .int .i64 x12_2] rfl (by (try simp only [List.map_toArray, List.map_cons, List.map_nil]); first | done | rfl | (simp only [List.length_drop, List.length_take]; rfl)) ?_; (with_reducible refine (xL2Set.calls a0_0 a0_1 a0_2 a0_3 x12_2 true _ A34.out).mono ?_); rintro e w39 ⟨rfl, hb⟩; refine ⟨_, rfl, ?_⟩; have n0_ := Aside0.mk (Kd.R_below (by (with_reducible repeat (first | apply Kd.R_alloc | apply Kd.R_drewN | apply Kd.R_drew)); exact HO_9.out) hb); have n1_ := Aside0.mk (Kd.R_below (by (with_reducible repeat (first | apply Kd.R_alloc | apply Kd.R_drewN | apply Kd.R_drew)); exact HO_10.out) hb); have n2_ := Aside0.mk (blk_below (g := gb106) (o := .cells #[.int .i64 a0_0, .int .i64 a0_1, .int .i64 a0_2, .int .i64 a0_3] 27 (0, 0)) (by (with_reducible repeat (first | refine blk_drewN ?_ _ | refine blk_drew ?_ | refine blk_alloc ?_ _)); exact BK106.out) hb); have n3_ := Aside0.mk (blk_below (g := gb121) (o := .cells #[.int .i64 t116, .int .i64 t117, .int .i64 t118, .int .i64 t119] 22 (0, 0)) (by (with_reducible repeat (first | refine blk_drewN ?_ _ | refine blk_drew ?_ | refine blk_alloc ?_ _)); exact BK121.out) hb); have n4_ := Aside0.mk (below_step (by repeat (first | (with_reducible first | exact HB.out | apply below_alloc | apply pw_below_drewN | apply below_drew1 | refine below_set ?_ GE106.out | refine below_set ?_ GE121.out) | exact HB.out)) hb); clear HO_9; clear HO_10; clear BK106; clear BK121; clear HB; have HO_9 := n0_; have HO_10 := n1_; have BK106 := n2_; have BK121 := n3_; have HB := n4_; clear n0_ n1_ n2_ n3_ n4_; (try clear hb); (try clear hb2); (try clear hk); (try clear hi)))
                            go_meet
                            case rel => exact ⟨_, (true), (by first | rfl | (simp; done) | (simp [*]; done)), H', ⟨by have := HK1.out; have := HK2.out; first | omega | exact Nat.le_refl _⟩, ⟨by (with_reducible repeat (first | apply Kd.R_alloc | apply Kd.R_drewN | apply Kd.R_drew)); exact HO_9.out⟩, ⟨by (with_reducible repeat (first | apply Kd.R_alloc | apply Kd.R_drewN | apply Kd.R_drew)); exact HO_10.out⟩, ⟨by (with_reducible repeat (first | refine blk_drewN ?_ _ | refine blk_drew ?_ | refine blk_alloc ?_ _)); exact BK106.out⟩, ⟨by (with_reducible repeat (first | refine blk_drewN ?_ _ | refine blk_drew ?_ | refine blk_alloc ?_ _)); exact BK121.out⟩, ⟨by repeat (first | (with_reducible first | exact HB.out | apply below_alloc | apply pw_below_drewN | apply below_drew1 | refine below_set ?_ GE106.out | refine below_set ?_ GE121.out) | exact HB.out)⟩⟩
                          · rw [if_neg c36] at H
                            have c36b0 : (t120 == 0) = false := beq_eq_false_iff_ne.mpr c36
                            have c36b1 : (t120 != 0) = true := bne_iff_ne.mpr c36
                            (first | rw [c36b0] | (simp only [i64_w, i32_w]; rw [c36b0]) | skip)
                            have H' := Aside0.mk H
                            clear H
                            have hnb40 := NB106_121.out
                            have hnc40 := NB121_106.out
                            have hcz41_0 : w33.cell? ⟨gb106, 0, none⟩ = some (.int .i64 a0_0) := (blk_cell BK106.out 0).trans rfl
                            have hcz41_1 : w33.cell? ⟨gb106, 1, none⟩ = some (.int .i64 a0_1) := (blk_cell BK106.out 1).trans rfl
                            have hcz41_2 : w33.cell? ⟨gb106, 2, none⟩ = some (.int .i64 a0_2) := (blk_cell BK106.out 2).trans rfl
                            have hcz41_3 : w33.cell? ⟨gb106, 3, none⟩ = some (.int .i64 a0_3) := (blk_cell BK106.out 3).trans rfl
                            have hfz41_0 := blk_frozen BK106.out 0
                            have hfz41_1 := blk_frozen BK106.out 1
                            have hfz41_2 := blk_frozen BK106.out 2
                            have hfz41_3 := blk_frozen BK106.out 3
                            go_wp2_with (first | ((with_reducible refine gate_callee (f := 61) rfl ?_); refine goesL_ (some 63) rfl rfl Try.func61 (by kernel_rfl) rfl #[.agg #[.int .i64 a0_0, .int .i64 a0_1, .int .i64 a0_2, .int .i64 a0_3], .int .i64 x12_2] rfl (by (try simp only [List.map_toArray, List.map_cons, List.map_nil]); first | done | rfl | (simp only [List.length_drop, List.length_take]; rfl)) ?_; (with_reducible refine (xL2Set.calls a0_0 a0_1 a0_2 a0_3 x12_2 true _ A34.out).mono ?_); rintro e w42 ⟨rfl, hb⟩; refine ⟨_, rfl, ?_⟩; have n0_ := Aside0.mk (Kd.R_below (by (with_reducible repeat (first | apply Kd.R_alloc | apply Kd.R_drewN | apply Kd.R_drew)); exact HO_9.out) hb); have n1_ := Aside0.mk (Kd.R_below (by (with_reducible repeat (first | apply Kd.R_alloc | apply Kd.R_drewN | apply Kd.R_drew)); exact HO_10.out) hb); have n2_ := Aside0.mk (blk_below (g := gb106) (o := .cells #[.int .i64 a0_0, .int .i64 a0_1, .int .i64 a0_2, .int .i64 a0_3] 27 (0, 0)) (by (with_reducible repeat (first | refine blk_drewN ?_ _ | refine blk_drew ?_ | refine blk_alloc ?_ _)); exact BK106.out) hb); have n3_ := Aside0.mk (blk_below (g := gb121) (o := .cells #[.int .i64 t116, .int .i64 t117, .int .i64 t118, .int .i64 t119] 22 (0, 0)) (by (with_reducible repeat (first | refine blk_drewN ?_ _ | refine blk_drew ?_ | refine blk_alloc ?_ _)); exact BK121.out) hb); have n4_ := Aside0.mk (below_step (by repeat (first | (with_reducible first | exact HB.out | apply below_alloc | apply pw_below_drewN | apply below_drew1 | refine below_set ?_ GE106.out | refine below_set ?_ GE121.out) | exact HB.out)) hb); clear HO_9; clear HO_10; clear BK106; clear BK121; clear HB; have HO_9 := n0_; have HO_10 := n1_; have BK106 := n2_; have BK121 := n3_; have HB := n4_; clear n0_ n1_ n2_ n3_ n4_; (try clear hb); (try clear hb2); (try clear hk); (try clear hi)))
                            go_meet
                            case rel => exact ⟨_, (decide ((wrap64 (((rd_T83 l1 x11_1).f0) + t120)) > a2)), (by first | rfl | (simp; done) | (simp [*]; done)), H', ⟨by have := HK1.out; have := HK2.out; first | omega | exact Nat.le_refl _⟩, ⟨by (with_reducible repeat (first | apply Kd.R_alloc | apply Kd.R_drewN | apply Kd.R_drew)); exact HO_9.out⟩, ⟨by (with_reducible repeat (first | apply Kd.R_alloc | apply Kd.R_drewN | apply Kd.R_drew)); exact HO_10.out⟩, ⟨by (with_reducible repeat (first | refine blk_drewN ?_ _ | refine blk_drew ?_ | refine blk_alloc ?_ _)); exact BK106.out⟩, ⟨by (with_reducible repeat (first | refine blk_drewN ?_ _ | refine blk_drew ?_ | refine blk_alloc ?_ _)); exact BK121.out⟩, ⟨by repeat (first | (with_reducible first | exact HB.out | apply below_alloc | apply pw_below_drewN | apply below_drew1 | refine below_set ?_ GE106.out | refine below_set ?_ GE121.out) | exact HB.out)⟩⟩
                        · replace c35 := Bool.eq_false_iff.mpr c35
                          subst c35
                          have H1 : (spec_l3Next.j2 k2 l1 a2 a3 x9_2 x10_2 x11_1 x12_2 (wrap64 (((rd_T83 l1 x11_1).f0) + t120)) ((rd_T83 l1 x11_1).f2) true a0_0 a0_1 a0_2 a0_3 t116 t117 t118 t119) = some r := by rw [if_neg (show ¬ (false = true) by decide)] at H; exact H
                          clear H
                          have H := H1
                          clear H1
                          have H' := Aside0.mk H
                          clear H
                          have hnb43 := NB106_121.out
                          have hnc43 := NB121_106.out
                          have hcz44_0 : w33.cell? ⟨gb106, 0, none⟩ = some (.int .i64 a0_0) := (blk_cell BK106.out 0).trans rfl
                          have hcz44_1 : w33.cell? ⟨gb106, 1, none⟩ = some (.int .i64 a0_1) := (blk_cell BK106.out 1).trans rfl
                          have hcz44_2 : w33.cell? ⟨gb106, 2, none⟩ = some (.int .i64 a0_2) := (blk_cell BK106.out 2).trans rfl
                          have hcz44_3 : w33.cell? ⟨gb106, 3, none⟩ = some (.int .i64 a0_3) := (blk_cell BK106.out 3).trans rfl
                          have hfz44_0 := blk_frozen BK106.out 0
                          have hfz44_1 := blk_frozen BK106.out 1
                          have hfz44_2 := blk_frozen BK106.out 2
                          have hfz44_3 := blk_frozen BK106.out 3
                          go_wp2_with (first | ((with_reducible refine gate_callee (f := 61) rfl ?_); refine goesL_ (some 63) rfl rfl Try.func61 (by kernel_rfl) rfl #[.agg #[.int .i64 a0_0, .int .i64 a0_1, .int .i64 a0_2, .int .i64 a0_3], .int .i64 x12_2] rfl (by (try simp only [List.map_toArray, List.map_cons, List.map_nil]); first | done | rfl | (simp only [List.length_drop, List.length_take]; rfl)) ?_; (with_reducible refine (xL2Set.calls a0_0 a0_1 a0_2 a0_3 x12_2 false _ A34.out).mono ?_); rintro e w45 ⟨rfl, hb⟩; refine ⟨_, rfl, ?_⟩; have n0_ := Aside0.mk (Kd.R_below (by (with_reducible repeat (first | apply Kd.R_alloc | apply Kd.R_drewN | apply Kd.R_drew)); exact HO_9.out) hb); have n1_ := Aside0.mk (Kd.R_below (by (with_reducible repeat (first | apply Kd.R_alloc | apply Kd.R_drewN | apply Kd.R_drew)); exact HO_10.out) hb); have n2_ := Aside0.mk (blk_below (g := gb106) (o := .cells #[.int .i64 a0_0, .int .i64 a0_1, .int .i64 a0_2, .int .i64 a0_3] 27 (0, 0)) (by (with_reducible repeat (first | refine blk_drewN ?_ _ | refine blk_drew ?_ | refine blk_alloc ?_ _)); exact BK106.out) hb); have n3_ := Aside0.mk (blk_below (g := gb121) (o := .cells #[.int .i64 t116, .int .i64 t117, .int .i64 t118, .int .i64 t119] 22 (0, 0)) (by (with_reducible repeat (first | refine blk_drewN ?_ _ | refine blk_drew ?_ | refine blk_alloc ?_ _)); exact BK121.out) hb); have n4_ := Aside0.mk (below_step (by repeat (first | (with_reducible first | exact HB.out | apply below_alloc | apply pw_below_drewN | apply below_drew1 | refine below_set ?_ GE106.out | refine below_set ?_ GE121.out) | exact HB.out)) hb); clear HO_9; clear HO_10; clear BK106; clear BK121; clear HB; have HO_9 := n0_; have HO_10 := n1_; have BK106 := n2_; have BK121 := n3_; have HB := n4_; clear n0_ n1_ n2_ n3_ n4_; (try clear hb); (try clear hb2); (try clear hk); (try clear hi)))
                          go_meet
                          case rel => exact ⟨_, (true), (by first | rfl | (simp; done) | (simp [*]; done)), H', ⟨by have := HK1.out; have := HK2.out; first | omega | exact Nat.le_refl _⟩, ⟨by (with_reducible repeat (first | apply Kd.R_alloc | apply Kd.R_drewN | apply Kd.R_drew)); exact HO_9.out⟩, ⟨by (with_reducible repeat (first | apply Kd.R_alloc | apply Kd.R_drewN | apply Kd.R_drew)); exact HO_10.out⟩, ⟨by (with_reducible repeat (first | refine blk_drewN ?_ _ | refine blk_drew ?_ | refine blk_alloc ?_ _)); exact BK106.out⟩, ⟨by (with_reducible repeat (first | refine blk_drewN ?_ _ | refine blk_drew ?_ | refine blk_alloc ?_ _)); exact BK121.out⟩, ⟨by repeat (first | (with_reducible first | exact HB.out | apply below_alloc | apply pw_below_drewN | apply below_drew1 | refine below_set ?_ GE106.out | refine below_set ?_ GE121.out) | exact HB.out)⟩⟩
                      case rest =>
                        clear HC23
                        try clear c1
                        try clear p1
                        try clear q1
                        try clear hx1
                        try clear c2
                        try clear p2
                        try clear c3
                        try clear c4
                        try clear c6
                        try clear p6
                        try clear c8
                        try clear p12
                        try clear q12
                        try clear hx12
                        try clear c35
                        try clear c36
                        try clear c36b0
                        try clear c36b1
                        try clear c37
                        try clear c40
                        try clear c43
                        try clear hcz38_0
                        try clear hcz38_1
                        try clear hcz38_2
                        try clear hcz38_3
                        try clear hcz41_0
                        try clear hcz41_1
                        try clear hcz41_2
                        try clear hcz41_3
                        try clear hcz44_0
                        try clear hcz44_1
                        try clear hcz44_2
                        try clear hcz44_3
                        try clear hfz38_0
                        try clear hfz38_1
                        try clear hfz38_2
                        try clear hfz38_3
                        try clear hfz41_0
                        try clear hfz41_1
                        try clear hfz41_2
                        try clear hfz41_3
                        try clear hfz44_0
                        try clear hfz44_1
                        try clear hfz44_2
                        try clear hfz44_3
                        try clear hx122_0
                        try clear hx122_1
                        try clear hx122_2
                        try clear hx122_3
                        try clear hx122_4
                        try clear hx122_5
                        try clear hx123_0
                        try clear hx123_1
                        try clear hx123_2
                        try clear hx123_3
                        try clear hx123_4
                        try clear hx123_5
                        try clear p122
                        try clear p123
                        try clear q122
                        try clear q123
                        obtain ⟨kq, x73_22, rfl, HA, HJ22, HO_9, HO_10, BK106, BK121, HB⟩ := hcut
                        cases kq with
                        | zero => exact absurd HA.out (by simp [spec_l3Next.j2])
                        | succ kj22 =>
                          have H := HA.out
                          clear HA
                          simp only [spec_l3Next.j2] at H
                          by_cases c46 : x73_22 = true
                          · subst c46
                            have H1 : (spec_l3Next.l1 kj22 l1 a2 a3 x9_2 x10_2 x11_1 (wrap64 (x12_2 + 1)) a0_0 a0_1 a0_2 a0_3) = some r := by rw [if_pos rfl] at H; exact H
                            clear H
                            have H := H1
                            clear H1
                            have H' := Aside0.mk H
                            clear H
                            go_wp2
                            go_roundg kj22
                            case measure => have := HK1.out; have := HK2.out; have := HJ22.out; omega
                            case rel => exact ⟨(x9_2), (x10_2), (wrap64 (x12_2 + 1)), (by first | rfl | (simp; done) | (simp [*]; done)), H', ⟨by have := HK1.out; have := HK2.out; have := HJ22.out; omega⟩, ⟨by (with_reducible repeat (first | apply Kd.R_alloc | apply Kd.R_drewN | apply Kd.R_drew)); exact HO_9.out⟩, ⟨by (with_reducible repeat (first | apply Kd.R_alloc | apply Kd.R_drewN | apply Kd.R_drew)); exact HO_10.out⟩, ⟨by (with_reducible repeat (first | refine blk_drewN ?_ _ | refine blk_drew ?_ | refine blk_alloc ?_ _)); exact BK106.out⟩, ⟨by repeat (first | (with_reducible first | exact HB.out | apply below_alloc | apply pw_below_drewN | apply below_drew1 | refine below_set ?_ GE106.out | refine below_set ?_ GE121.out) | exact HB.out)⟩⟩
                          · replace c46 := Bool.eq_false_iff.mpr c46
                            subst c46
                            have H1 : (if a3 = true then ((spec_l3Bits.f kj22 x12_2).bind fun t125 => (spec_l3Next.j3 kj22 l1 a2 a3 x9_2 x10_2 x11_1 x12_2 (wrap64 (((rd_T83 l1 x11_1).f0) + t120)) (wrap64 (((rd_T83 l1 x11_1).f2) + t125)) a0_0 a0_1 a0_2 a0_3 t116 t117 t118 t119)) else (spec_l3Next.j3 kj22 l1 a2 a3 x9_2 x10_2 x11_1 x12_2 (wrap64 (((rd_T83 l1 x11_1).f0) + t120)) ((rd_T83 l1 x11_1).f2) a0_0 a0_1 a0_2 a0_3 t116 t117 t118 t119)) = some r := by rw [if_neg (show ¬ (false = true) by decide)] at H; exact H
                            clear H
                            have H := H1
                            clear H1
                            have HC47 := Aside0.mk H
                            clear H
                            go_upto_if 74 with (fail)
                            go_cut [16] (fun v16 wc => ∃ (kq : Nat) (x16_46 : Int), v16 = .int .i64 x16_46 ∧ Aside0 (spec_l3Next.j3 kq l1 a2 a3 x9_2 x10_2 x11_1 x12_2 (wrap64 (((rd_T83 l1 x11_1).f0) + t120)) x16_46 a0_0 a0_1 a0_2 a0_3 t116 t117 t118 t119 = some r) ∧ Aside0 (kq ≤ kj22) ∧ Aside0 (Kd.R k83 83 wc w.heap.size (fun _ => True) u9 x9_2) ∧ Aside0 (Kd.R (Kd.int .i64) 3 wc w.heap.size (fun _ => True) v112 x10_2) ∧ Aside0 (wc.heap[gb106]? = some (.cells #[.int .i64 a0_0, .int .i64 a0_1, .int .i64 a0_2, .int .i64 a0_3] 27 (0, 0))) ∧ Aside0 (wc.heap[gb121]? = some (.cells #[.int .i64 t116, .int .i64 t117, .int .i64 t118, .int .i64 t119] 22 (0, 0))) ∧ Aside0 (Below w.heap.size w wc))
                            case first =>
                              have H := HC47.out
                              clear HC47
                              by_cases c48 : a3 = true
                              · subst c48
                                have H1 : ((spec_l3Bits.f kj22 x12_2).bind fun t125 => (spec_l3Next.j3 kj22 l1 a2 true x9_2 x10_2 x11_1 x12_2 (wrap64 (((rd_T83 l1 x11_1).f0) + t120)) (wrap64 (((rd_T83 l1 x11_1).f2) + t125)) a0_0 a0_1 a0_2 a0_3 t116 t117 t118 t119)) = some r := by rw [if_pos rfl] at H; exact H
                                clear H
                                have H := H1
                                clear H1
                                replace H := Option.bind_eq_some_iff.mp H
                                obtain ⟨t125, A490, H⟩ := H
                                replace H : (spec_l3Next.j3 kj22 l1 a2 true x9_2 x10_2 x11_1 x12_2 (wrap64 (((rd_T83 l1 x11_1).f0) + t120)) (wrap64 (((rd_T83 l1 x11_1).f2) + t125)) a0_0 a0_1 a0_2 a0_3 t116 t117 t118 t119) = some r := H
                                have A49 := Aside0.mk A490
                                clear A490
                                have H' := Aside0.mk H
                                clear H
                                go_wp2_with (first | ((with_reducible refine gate_callee (f := 98) rfl ?_); refine goesL_ (some 77) rfl rfl Try.func98 (by kernel_rfl) rfl #[.int .i64 x12_2] rfl (by (try simp only [List.map_toArray, List.map_cons, List.map_nil]); first | done | rfl | (simp only [List.length_drop, List.length_take]; rfl)) ?_; (with_reducible refine (spec_l3Bits.calls kj22 x12_2 t125 _ A49.out).mono ?_); rintro e w' ⟨rfl, ⟨nd, rfl⟩⟩; refine ⟨_, rfl, ?_⟩))
                                go_meet
                                case rel => exact ⟨_, (wrap64 (((rd_T83 l1 x11_1).f2) + t125)), (by first | rfl | (simp; done) | (simp [*]; done)), H', ⟨by have := HK1.out; have := HK2.out; have := HJ22.out; first | omega | exact Nat.le_refl _⟩, ⟨by (with_reducible repeat (first | apply Kd.R_alloc | apply Kd.R_drewN | apply Kd.R_drew)); exact HO_9.out⟩, ⟨by (with_reducible repeat (first | apply Kd.R_alloc | apply Kd.R_drewN | apply Kd.R_drew)); exact HO_10.out⟩, ⟨by (with_reducible repeat (first | refine blk_drewN ?_ _ | refine blk_drew ?_ | refine blk_alloc ?_ _)); exact BK106.out⟩, ⟨by (with_reducible repeat (first | refine blk_drewN ?_ _ | refine blk_drew ?_ | refine blk_alloc ?_ _)); exact BK121.out⟩, ⟨by repeat (first | (with_reducible first | exact HB.out | apply below_alloc | apply pw_below_drewN | apply below_drew1 | refine below_set ?_ GE106.out | refine below_set ?_ GE121.out) | exact HB.out)⟩⟩
                              · replace c48 := Bool.eq_false_iff.mpr c48
                                subst c48
                                have H1 : (spec_l3Next.j3 kj22 l1 a2 false x9_2 x10_2 x11_1 x12_2 (wrap64 (((rd_T83 l1 x11_1).f0) + t120)) ((rd_T83 l1 x11_1).f2) a0_0 a0_1 a0_2 a0_3 t116 t117 t118 t119) = some r := by rw [if_neg (show ¬ (false = true) by decide)] at H; exact H
                                clear H
                                have H := H1
                                clear H1
                                have H' := Aside0.mk H
                                clear H
                                go_wp2
                                go_meet
                                case rel => exact ⟨_, (((rd_T83 l1 x11_1).f2)), (by first | rfl | (simp; done) | (simp [*]; done)), H', ⟨by have := HK1.out; have := HK2.out; have := HJ22.out; first | omega | exact Nat.le_refl _⟩, ⟨by (with_reducible repeat (first | apply Kd.R_alloc | apply Kd.R_drewN | apply Kd.R_drew)); exact HO_9.out⟩, ⟨by (with_reducible repeat (first | apply Kd.R_alloc | apply Kd.R_drewN | apply Kd.R_drew)); exact HO_10.out⟩, ⟨by (with_reducible repeat (first | refine blk_drewN ?_ _ | refine blk_drew ?_ | refine blk_alloc ?_ _)); exact BK106.out⟩, ⟨by (with_reducible repeat (first | refine blk_drewN ?_ _ | refine blk_drew ?_ | refine blk_alloc ?_ _)); exact BK121.out⟩, ⟨by repeat (first | (with_reducible first | exact HB.out | apply below_alloc | apply pw_below_drewN | apply below_drew1 | refine below_set ?_ GE106.out | refine below_set ?_ GE121.out) | exact HB.out)⟩⟩
                            case rest =>
                              clear HC47
                              try clear c1
                              try clear p1
                              try clear q1
                              try clear hx1
                              try clear c2
                              try clear p2
                              try clear c3
                              try clear c4
                              try clear c6
                              try clear p6
                              try clear c8
                              try clear c9
                              try clear p12
                              try clear q12
                              try clear hx12
                              try clear c35
                              try clear c36
                              try clear c36b0
                              try clear c36b1
                              try clear c37
                              try clear c40
                              try clear c43
                              try clear c46
                              try clear c48
                              try clear hcz38_0
                              try clear hcz38_1
                              try clear hcz38_2
                              try clear hcz38_3
                              try clear hcz41_0
                              try clear hcz41_1
                              try clear hcz41_2
                              try clear hcz41_3
                              try clear hcz44_0
                              try clear hcz44_1
                              try clear hcz44_2
                              try clear hcz44_3
                              try clear hfz38_0
                              try clear hfz38_1
                              try clear hfz38_2
                              try clear hfz38_3
                              try clear hfz41_0
                              try clear hfz41_1
                              try clear hfz41_2
                              try clear hfz41_3
                              try clear hfz44_0
                              try clear hfz44_1
                              try clear hfz44_2
                              try clear hfz44_3
                              try clear hx122_0
                              try clear hx122_1
                              try clear hx122_2
                              try clear hx122_3
                              try clear hx122_4
                              try clear hx122_5
                              try clear hx123_0
                              try clear hx123_1
                              try clear hx123_2
                              try clear hx123_3
                              try clear hx123_4
                              try clear hx123_5
                              try clear p1
                              try clear p12
                              try clear p122
                              try clear p123
                              try clear p2
                              try clear p6
                              try clear q1
                              try clear q12
                              try clear q122
                              try clear q123
                              obtain ⟨kq, x16_46, rfl, HA, HJ46, HO_9, HO_10, BK106, BK121, HB⟩ := hcut
                              cases kq with
                              | zero => exact absurd HA.out (by simp [spec_l3Next.j3])
                              | succ kj46 =>
                                have H := HA.out
                                clear HA
                                simp only [spec_l3Next.j3] at H
                                replace H := Option.bind_eq_some_iff.mp H
                                obtain ⟨t126, A500, H⟩ := H
                                replace H : (if 0 ≤ t126 then (if t126 < (x10_2.length : Int) then (if (rd x10_2 t126) = 0 then (if x9_2.length < 2932031007402 then ((some (x9_2 ++ [(⟨(wrap64 (((rd_T83 l1 x11_1).f0) + t120)), (⟨t116, t117, t118, t119⟩ : S22), x16_46⟩ : S83)] : List (S83))).bind fun y128 => (spec_l3Next.l1 kj46 l1 a2 a3 y128 (x10_2.set (t126 : Int).toNat (y128.length : Int)) x11_1 (wrap64 (x12_2 + 1)) a0_0 a0_1 a0_2 a0_3)) else (none)) else (if a3 = true then (if 0 ≤ (wrap64 ((rd x10_2 t126) - 1)) then (if (wrap64 ((rd x10_2 t126) - 1)) < (x9_2.length : Int) then ((spec_l1Least.f ((rd_T83 x9_2 (wrap64 ((rd x10_2 t126) - 1))).f2) x16_46).bind fun t135 => (spec_l3Next.l1 kj46 l1 a2 a3 (x9_2.set ((wrap64 ((rd x10_2 t126) - 1)) : Int).toNat (⟨(rd_T83 x9_2 (wrap64 ((rd x10_2 t126) - 1))).f0, (⟨(rd_T83 x9_2 (wrap64 ((rd x10_2 t126) - 1))).f1.f0, (rd_T83 x9_2 (wrap64 ((rd x10_2 t126) - 1))).f1.f1, (rd_T83 x9_2 (wrap64 ((rd x10_2 t126) - 1))).f1.f2, (rd_T83 x9_2 (wrap64 ((rd x10_2 t126) - 1))).f1.f3⟩ : S22), t135⟩ : S83)) x10_2 x11_1 (wrap64 (x12_2 + 1)) a0_0 a0_1 a0_2 a0_3)) else (none)) else (none)) else (if 0 ≤ (wrap64 ((rd x10_2 t126) - 1)) then (if (wrap64 ((rd x10_2 t126) - 1)) < (x9_2.length : Int) then (spec_l3Next.l1 kj46 l1 a2 a3 (x9_2.set ((wrap64 ((rd x10_2 t126) - 1)) : Int).toNat (⟨(rd_T83 x9_2 (wrap64 ((rd x10_2 t126) - 1))).f0, (⟨(rd_T83 x9_2 (wrap64 ((rd x10_2 t126) - 1))).f1.f0, (rd_T83 x9_2 (wrap64 ((rd x10_2 t126) - 1))).f1.f1, (rd_T83 x9_2 (wrap64 ((rd x10_2 t126) - 1))).f1.f2, (rd_T83 x9_2 (wrap64 ((rd x10_2 t126) - 1))).f1.f3⟩ : S22), wrap64 (((rd_T83 x9_2 (wrap64 ((rd x10_2 t126) - 1))).f2) + x16_46)⟩ : S83)) x10_2 x11_1 (wrap64 (x12_2 + 1)) a0_0 a0_1 a0_2 a0_3) else (none)) else (none)))) else (none)) else (none)) = some r := H
                                have A50 := Aside0.mk A500
                                clear A500
                                by_cases c51 : 0 ≤ t126
                                · rw [if_pos c51] at H
                                  have c51b0 : decide (0 ≤ t126) = true := decide_eq_true c51
                                  clear c51
                                  by_cases c52 : t126 < (x10_2.length : Int)
                                  · rw [if_pos c52] at H
                                    have c52b0 : decide (t126 < (x10_2.length : Int)) = true := decide_eq_true c52
                                    clear c52
                                    by_cases c53 : (rd x10_2 t126) = 0
                                    · rw [if_pos c53] at H
                                      have c53b0 : ((rd x10_2 t126) == 0) = true := beq_iff_eq.mpr c53
                                      have c53b1 : ((rd x10_2 t126) != 0) = false := bne_eq_false_iff_eq.mpr c53
                                      clear c53
                                      by_cases c54 : x9_2.length < 2932031007402
                                      · rw [if_pos c54] at H
                                        have LMc54 := Aside0.mk c54
                                        clear c54
                                        obtain ⟨y128, hy128⟩ : ∃ y_ : List (S83), y_ = (x9_2 ++ [(⟨(wrap64 (((rd_T83 l1 x11_1).f0) + t120)), (⟨t116, t117, t118, t119⟩ : S22), x16_46⟩ : S83)]) := ⟨_, rfl⟩
                                        replace H : (spec_l3Next.l1 kj46 l1 a2 a3 y128 (x10_2.set (t126 : Int).toNat (y128.length : Int)) x11_1 (wrap64 (x12_2 + 1)) a0_0 a0_1 a0_2 a0_3) = some r := by first | (rw [hy128]; with_reducible exact H) | (have H2_ := (Option.bind_some _ _).symm.trans H; rw [hy128]; with_reducible exact H2_) | (have H2_ := (Option.bind_some _ _).symm.trans H; with_reducible exact H2_) | with_reducible exact H | (rw [hy128]; exact H) | exact H
                                        have Ny128 := Aside0.mk hy128
                                        clear hy128
                                        obtain ⟨y131, hy131⟩ : ∃ y_ : List Int, y_ = (x10_2.set (t126 : Int).toNat (y128.length : Int)) := ⟨_, rfl⟩
                                        replace H : (spec_l3Next.l1 kj46 l1 a2 a3 y128 y131 x11_1 (wrap64 (x12_2 + 1)) a0_0 a0_1 a0_2 a0_3) = some r := by first | (rw [hy131]; with_reducible exact H) | (have H2_ := (Option.bind_some _ _).symm.trans H; rw [hy131]; with_reducible exact H2_) | (have H2_ := (Option.bind_some _ _).symm.trans H; with_reducible exact H2_) | with_reducible exact H | (rw [hy131]; exact H) | exact H
                                        have Ny131 := Aside0.mk hy131
                                        clear hy131
                                        have H' := Aside0.mk H
                                        clear H
                                        have hnb56 := NB106_121.out
                                        have hnc56 := NB121_106.out
                                        have hcz57_0 : wc.cell? ⟨gb106, 0, none⟩ = some (.int .i64 a0_0) := (blk_cell BK106.out 0).trans rfl
                                        have hcz57_1 : wc.cell? ⟨gb106, 1, none⟩ = some (.int .i64 a0_1) := (blk_cell BK106.out 1).trans rfl
                                        have hcz57_2 : wc.cell? ⟨gb106, 2, none⟩ = some (.int .i64 a0_2) := (blk_cell BK106.out 2).trans rfl
                                        have hcz57_3 : wc.cell? ⟨gb106, 3, none⟩ = some (.int .i64 a0_3) := (blk_cell BK106.out 3).trans rfl
                                        have hfz57_0 := blk_frozen BK106.out 0
                                        have hfz57_1 := blk_frozen BK106.out 1
                                        have hfz57_2 := blk_frozen BK106.out 2
                                        have hfz57_3 := blk_frozen BK106.out 3
                                        have hcz58_0 : wc.cell? ⟨gb121, 0, none⟩ = some (.int .i64 t116) := (blk_cell BK121.out 0).trans rfl
                                        have hcz58_1 : wc.cell? ⟨gb121, 1, none⟩ = some (.int .i64 t117) := (blk_cell BK121.out 1).trans rfl
                                        have hcz58_2 : wc.cell? ⟨gb121, 2, none⟩ = some (.int .i64 t118) := (blk_cell BK121.out 2).trans rfl
                                        have hcz58_3 : wc.cell? ⟨gb121, 3, none⟩ = some (.int .i64 t119) := (blk_cell BK121.out 3).trans rfl
                                        have hfz58_0 := blk_frozen BK121.out 0
                                        have hfz58_1 := blk_frozen BK121.out 1
                                        have hfz58_2 := blk_frozen BK121.out 2
                                        have hfz58_3 := blk_frozen BK121.out 3
                                        go_wp2_with (first | ((with_reducible refine gate_callee (f := 99) rfl ?_); refine goesL_ (some 82) rfl rfl Try.func99 (by kernel_rfl) rfl #[.agg #[.int .i64 a0_0, .int .i64 a0_1, .int .i64 a0_2, .int .i64 a0_3], .int .i64 (wrap64 (((rd_T83 l1 x11_1).f0) + t120)), .agg #[.int .i64 t116, .int .i64 t117, .int .i64 t118, .int .i64 t119]] rfl (by (try simp only [List.map_toArray, List.map_cons, List.map_nil]); first | done | rfl | (simp only [List.length_drop, List.length_take]; rfl)) ?_; (with_reducible refine (xL3Id.calls a0_0 a0_1 a0_2 a0_3 (wrap64 (((rd_T83 l1 x11_1).f0) + t120)) t116 t117 t118 t119 t126 _ A50.out).mono ?_); rintro e w59 ⟨rfl, hb⟩; refine ⟨_, rfl, ?_⟩; have n0_ := Aside0.mk (Kd.R_below (by (with_reducible repeat (first | apply Kd.R_alloc | apply Kd.R_drewN | apply Kd.R_drew)); exact HO_9.out) hb); have n1_ := Aside0.mk (Kd.R_below (by (with_reducible repeat (first | apply Kd.R_alloc | apply Kd.R_drewN | apply Kd.R_drew)); exact HO_10.out) hb); have n2_ := Aside0.mk (blk_below (g := gb106) (o := .cells #[.int .i64 a0_0, .int .i64 a0_1, .int .i64 a0_2, .int .i64 a0_3] 27 (0, 0)) (by (with_reducible repeat (first | refine blk_drewN ?_ _ | refine blk_drew ?_ | refine blk_alloc ?_ _)); exact BK106.out) hb); have n3_ := Aside0.mk (blk_below (g := gb121) (o := .cells #[.int .i64 t116, .int .i64 t117, .int .i64 t118, .int .i64 t119] 22 (0, 0)) (by (with_reducible repeat (first | refine blk_drewN ?_ _ | refine blk_drew ?_ | refine blk_alloc ?_ _)); exact BK121.out) hb); have n4_ := Aside0.mk (below_step (by repeat (first | (with_reducible first | exact HB.out | apply below_alloc | apply pw_below_drewN | apply below_drew1 | refine below_set ?_ GE106.out | refine below_set ?_ GE121.out) | exact HB.out)) hb); clear HO_9; clear HO_10; clear BK106; clear BK121; clear HB; have HO_9 := n0_; have HO_10 := n1_; have BK106 := n2_; have BK121 := n3_; have HB := n4_; clear n0_ n1_ n2_ n3_ n4_; (try clear hb); (try clear hb2); (try clear hk); (try clear hi); obtain ⟨Ao60, co60, eo60⟩ := Kd.R_slice HO_10.out; subst eo60; have p127 : 0 ≤ (t126 : Int) := of_decide_eq_true (by first | (with_reducible assumption) | assumption); have q127 : t126 < (x10_2.length : Int) := of_decide_eq_true (by first | (with_reducible assumption) | assumption); obtain ⟨ad127, e127, hx127_0⟩ := Kd.at_int (Kd.R_reads' HO_10.out).2.2 t126 p127 q127; cases e127; replace p127 := eq_true p127; replace q127 := eq_true q127; have hcz61_0 : w59.cell? ⟨gb121, 0, none⟩ = some (.int .i64 t116) := (blk_cell BK121.out 0).trans rfl; have hcz61_1 : w59.cell? ⟨gb121, 1, none⟩ = some (.int .i64 t117) := (blk_cell BK121.out 1).trans rfl; have hcz61_2 : w59.cell? ⟨gb121, 2, none⟩ = some (.int .i64 t118) := (blk_cell BK121.out 2).trans rfl; have hcz61_3 : w59.cell? ⟨gb121, 3, none⟩ = some (.int .i64 t119) := (blk_cell BK121.out 3).trans rfl; have hfz61_0 := blk_frozen BK121.out 0; have hfz61_1 := blk_frozen BK121.out 1; have hfz61_2 := blk_frozen BK121.out 2; have hfz61_3 := blk_frozen BK121.out 3) | ((with_reducible refine gate_builtin (b := .append) (xs := #[.tmp 108, .tmp 113]) rfl ?_); at_builtin; refine Kd.R_append k83 (w0 := w) w.heap.size rfl (.tmp 108) (.tmp 113) 84 83 (.agg #[(.int .i64 0), (.int .i64 0), (.int .i64 0), (.int .i64 0), (.int .i64 0), (.int .i64 0)]) 48 rfl Try.underlying84 info83 rfl (by decide) (by omega) u9 x9_2 (⟨(wrap64 (((rd_T83 l1 x11_1).f0) + t120)), (⟨t116, t117, t118, t119⟩ : S22), x16_46⟩ : S83) [.int .i64 (wrap64 (((rd_T83 l1 x11_1).f0) + t120)), .int .i64 t116, .int .i64 t117, .int .i64 t118, .int .i64 t119, .int .i64 x16_46] (fun _ => True) (fun _ => False) rfl rfl ?aP (fun _ hk => hk.elim) ?aF ?aO ?aB ?aS ?aL ?_; (case aP => exact k83_mkM _ _ _ (⟨(wrap64 (((rd_T83 l1 x11_1).f0) + t120)), (⟨t116, t117, t118, t119⟩ : S22), x16_46⟩ : S83)); (case aB => exact (by repeat (first | (with_reducible first | exact HB.out | apply below_alloc | apply pw_below_drewN | apply below_drew1 | refine below_set ?_ GE106.out | refine below_set ?_ GE121.out) | exact HB.out))); (case aF => exact (fun _ _ => trivial)); (case aO => exact (by (with_reducible repeat (first | apply Kd.R_alloc | apply Kd.R_drewN | apply Kd.R_drew)); exact HO_9.out)); (case aS => exact (below_size (by repeat (first | (with_reducible first | exact HB.out | apply below_alloc | apply pw_below_drewN | apply below_drew1 | refine below_set ?_ GE106.out | refine below_set ?_ GE121.out) | exact HB.out)))); (case aL => have := LMc54.out; omega); intro v129 w62 ho hb hg hat; rw [← Ny128.out] at ho; have n0_ := Aside0.mk (Kd.R_over' (by (with_reducible repeat (first | apply Kd.R_alloc | apply Kd.R_drewN | apply Kd.R_drew)); exact HO_10.out) (Kd.R_typed (by (with_reducible repeat (first | apply Kd.R_alloc | apply Kd.R_drewN | apply Kd.R_drew)); exact HO_9.out)) (by decide) hg); have n1_ := Aside0.mk (blk_grown (g := gb106) (o := .cells #[.int .i64 a0_0, .int .i64 a0_1, .int .i64 a0_2, .int .i64 a0_3] 27 (0, 0)) (by (with_reducible repeat (first | refine blk_drewN ?_ _ | refine blk_drew ?_ | refine blk_alloc ?_ _)); exact BK106.out) hg (Kd.R_ne HO_9.out BK106.out (by decide))); have n2_ := Aside0.mk (blk_grown (g := gb121) (o := .cells #[.int .i64 t116, .int .i64 t117, .int .i64 t118, .int .i64 t119] 22 (0, 0)) (by (with_reducible repeat (first | refine blk_drewN ?_ _ | refine blk_drew ?_ | refine blk_alloc ?_ _)); exact BK121.out) hg (Kd.R_ne HO_9.out BK121.out (by decide))); have n3_ := Aside0.mk (hb); have n4_ := Aside0.mk (ho); clear HO_10; clear BK106; clear BK121; clear HB; clear HO_9; have HO_10 := n0_; have BK106 := n1_; have BK121 := n2_; have HB := n3_; have HO130 := n4_; clear n0_ n1_ n2_ n3_ n4_; clear ho hb hg hat; obtain ⟨Ao63, co63, eo63⟩ := Kd.R_slice HO130.out; subst eo63; have p55 : 0 ≤ (t126 : Int) := of_decide_eq_true (by first | (with_reducible assumption) | assumption); have q55 : (t126 : Int) < ((x10_2.length : Int) : Int) := of_decide_eq_true (by first | (with_reducible assumption) | assumption); obtain ⟨go55, co55, eo55, gb55, gl55, cl55, HG55⟩ := Kd.R_form HO_10.out (by omega); (first | cases eo55 | (injection eo55 with ea_ en_ ec_; (first | subst ea_ | (injection ea_ with ea_; subst ea_)); subst ec_; clear en_)); have GB55 := Aside0.mk gb55; have GG55 := Aside0.mk HG55; clear gb55 gl55 HG55; (first | simp only [add_plain] at hx127_0 | skip); obtain ⟨hx55_0, hf55_0⟩ := Kd.R_celln 0 HO_10.out (t126 : Int) p55 q55; replace p55 := eq_true p55; replace q55 := eq_true q55; obtain ⟨hy64_, hz64_⟩ := Kd.R_celln 0 HO_10.out (t126 : Int) (of_decide_eq_true (by first | (with_reducible assumption) | assumption)) (of_decide_eq_true (by first | (with_reducible assumption) | assumption)); have HP64 := Kd.R_putg HO_10.out (t126 : Int) (y128.length : Int)) | ((with_reducible refine gate_store (t := 3) (p := 119) rfl ?_); refine store_event (t := 3) (p := 119) (v := ?vo_w65) (w1 := (w62.setCell ⟨go55, (t126 : Int).toNat, none⟩ (.int .i64 (y128.length : Int)))) ?hg ?ho ?hn ?hr ?_; (case ho => rfl); (case hg => rfl); (case hn => rfl); (case hr => first | (go_simp; done) | (go_simp; rfl)); intro w65 hw; have hg : w62.grownBy w65 (some go55) := (by rw [hw]; exact HP64.2); have hp_ : Kd.R (Kd.int .i64) 3 w65 w.heap.size (fun _ => True) (.slice (some ⟨go55, 0, none⟩) x10_2.length co60) y131 := (by rw [hw, Ny131.out]; exact HP64.1); clear HP64; have n0_ := Aside0.mk (hp_); have n1_ := Aside0.mk (blk_grown (g := gb106) (o := .cells #[.int .i64 a0_0, .int .i64 a0_1, .int .i64 a0_2, .int .i64 a0_3] 27 (0, 0)) (by (with_reducible repeat (first | refine blk_drewN ?_ _ | refine blk_drew ?_ | refine blk_alloc ?_ _)); exact BK106.out) hg (Kd.R_ne HO_10.out BK106.out (by decide))); have n2_ := Aside0.mk (blk_grown (g := gb121) (o := .cells #[.int .i64 t116, .int .i64 t117, .int .i64 t118, .int .i64 t119] 22 (0, 0)) (by (with_reducible repeat (first | refine blk_drewN ?_ _ | refine blk_drew ?_ | refine blk_alloc ?_ _)); exact BK121.out) hg (Kd.R_ne HO_10.out BK121.out (by decide))); have n3_ := Aside0.mk (Kd.R_over' (v := (.slice (some ⟨go55, 0, none⟩) x10_2.length co60)) (by (with_reducible repeat (first | apply Kd.R_alloc | apply Kd.R_drewN | apply Kd.R_drew)); exact HO130.out) (Kd.R_typed HO_10.out) (by decide) hg); have n4_ := Aside0.mk ((by rw [hw]; exact below_set (HB.out) GB55.out : Below w.heap.size w w65)); clear HO_10; clear BK106; clear BK121; clear HO130; clear HB; have HO_10 := n0_; have BK106 := n1_; have BK121 := n2_; have HO130 := n3_; have HB := n4_; clear n0_ n1_ n2_ n3_ n4_; clear hg hw hp_))
                                        go_roundg kj46
                                        case measure => have := HK1.out; have := HK2.out; have := HJ22.out; have := HJ46.out; omega
                                        case rel => exact ⟨(y128), (y131), (wrap64 (x12_2 + 1)), (by first | rfl | (simp; done) | (simp [*]; done)), H', ⟨by have := HK1.out; have := HK2.out; have := HJ22.out; have := HJ46.out; omega⟩, ⟨by (with_reducible repeat (first | apply Kd.R_alloc | apply Kd.R_drewN | apply Kd.R_drew)); exact HO130.out⟩, ⟨by (with_reducible repeat (first | apply Kd.R_alloc | apply Kd.R_drewN | apply Kd.R_drew)); exact HO_10.out⟩, ⟨by (with_reducible repeat (first | refine blk_drewN ?_ _ | refine blk_drew ?_ | refine blk_alloc ?_ _)); exact BK106.out⟩, ⟨by repeat (first | (with_reducible first | exact HB.out | apply below_alloc | apply pw_below_drewN | apply below_drew1 | refine below_set ?_ GE106.out | refine below_set ?_ GE121.out) | exact HB.out)⟩⟩
                                      · rw [if_neg c54] at H
                                        exact absurd H (by simp)
                                    · rw [if_neg c53] at H
                                      have c53b0 : ((rd x10_2 t126) == 0) = false := beq_eq_false_iff_ne.mpr c53
                                      have c53b1 : ((rd x10_2 t126) != 0) = true := bne_iff_ne.mpr c53
                                      by_cases c66 : a3 = true
                                      · subst c66
                                        have H1 : (if 0 ≤ (wrap64 ((rd x10_2 t126) - 1)) then (if (wrap64 ((rd x10_2 t126) - 1)) < (x9_2.length : Int) then ((spec_l1Least.f ((rd_T83 x9_2 (wrap64 ((rd x10_2 t126) - 1))).f2) x16_46).bind fun t135 => (spec_l3Next.l1 kj46 l1 a2 true (x9_2.set ((wrap64 ((rd x10_2 t126) - 1)) : Int).toNat (⟨(rd_T83 x9_2 (wrap64 ((rd x10_2 t126) - 1))).f0, (⟨(rd_T83 x9_2 (wrap64 ((rd x10_2 t126) - 1))).f1.f0, (rd_T83 x9_2 (wrap64 ((rd x10_2 t126) - 1))).f1.f1, (rd_T83 x9_2 (wrap64 ((rd x10_2 t126) - 1))).f1.f2, (rd_T83 x9_2 (wrap64 ((rd x10_2 t126) - 1))).f1.f3⟩ : S22), t135⟩ : S83)) x10_2 x11_1 (wrap64 (x12_2 + 1)) a0_0 a0_1 a0_2 a0_3)) else (none)) else (none)) = some r := by rw [if_pos rfl] at H; exact H
                                        clear H
                                        have H := H1
                                        clear H1
                                        obtain ⟨ji67, hji67⟩ : ∃ j_ : Int, (wrap64 ((rd x10_2 t126) - 1)) = j_ := ⟨_, rfl⟩
                                        replace H : (if 0 ≤ (ji67) then (if (ji67) < (x9_2.length : Int) then ((spec_l1Least.f ((rd_T83 x9_2 (ji67)).f2) x16_46).bind fun t135 => (spec_l3Next.l1 kj46 l1 a2 true (x9_2.set ((ji67) : Int).toNat (⟨(rd_T83 x9_2 (ji67)).f0, (⟨(rd_T83 x9_2 (ji67)).f1.f0, (rd_T83 x9_2 (ji67)).f1.f1, (rd_T83 x9_2 (ji67)).f1.f2, (rd_T83 x9_2 (ji67)).f1.f3⟩ : S22), t135⟩ : S83)) x10_2 x11_1 (wrap64 (x12_2 + 1)) a0_0 a0_1 a0_2 a0_3)) else (none)) else (none)) = some r := by first | (rw [hji67] at H; exact H) | (simp only [hji67] at H ⊢; exact H)
                                        (try rw [hji67] at A50)
                                        have hji67w : (IntKind.i64.wrap ((rd x10_2 t126) - 1)) = ji67 := (i64_w _).trans hji67
                                        by_cases c68 : 0 ≤ (ji67)
                                        · rw [if_pos c68] at H
                                          have c68b0 : decide (0 ≤ (ji67)) = true := decide_eq_true c68
                                          clear c68
                                          by_cases c69 : (ji67) < (x9_2.length : Int)
                                          · rw [if_pos c69] at H
                                            have c69b0 : decide ((ji67) < (x9_2.length : Int)) = true := decide_eq_true c69
                                            clear c69
                                            replace H := Option.bind_eq_some_iff.mp H
                                            obtain ⟨t135, A700, H⟩ := H
                                            replace H : (spec_l3Next.l1 kj46 l1 a2 true (x9_2.set ((ji67) : Int).toNat (⟨(rd_T83 x9_2 (ji67)).f0, (⟨(rd_T83 x9_2 (ji67)).f1.f0, (rd_T83 x9_2 (ji67)).f1.f1, (rd_T83 x9_2 (ji67)).f1.f2, (rd_T83 x9_2 (ji67)).f1.f3⟩ : S22), t135⟩ : S83)) x10_2 x11_1 (wrap64 (x12_2 + 1)) a0_0 a0_1 a0_2 a0_3) = some r := H
                                            have A70 := Aside0.mk A700
                                            clear A700
                                            obtain ⟨y136, hy136⟩ : ∃ y_ : List (S83), y_ = (x9_2.set ((ji67) : Int).toNat (⟨(rd_T83 x9_2 (ji67)).f0, (⟨(rd_T83 x9_2 (ji67)).f1.f0, (rd_T83 x9_2 (ji67)).f1.f1, (rd_T83 x9_2 (ji67)).f1.f2, (rd_T83 x9_2 (ji67)).f1.f3⟩ : S22), t135⟩ : S83)) := ⟨_, rfl⟩
                                            replace H : (spec_l3Next.l1 kj46 l1 a2 true y136 x10_2 x11_1 (wrap64 (x12_2 + 1)) a0_0 a0_1 a0_2 a0_3) = some r := by first | (rw [hy136]; with_reducible exact H) | (have H2_ := (Option.bind_some _ _).symm.trans H; rw [hy136]; with_reducible exact H2_) | (have H2_ := (Option.bind_some _ _).symm.trans H; with_reducible exact H2_) | with_reducible exact H | (rw [hy136]; exact H) | exact H
                                            have Ny136 := Aside0.mk hy136
                                            clear hy136
                                            have H' := Aside0.mk H
                                            clear H
                                            have hnb72 := NB106_121.out
                                            have hnc72 := NB121_106.out
                                            have hcz73_0 : wc.cell? ⟨gb106, 0, none⟩ = some (.int .i64 a0_0) := (blk_cell BK106.out 0).trans rfl
                                            have hcz73_1 : wc.cell? ⟨gb106, 1, none⟩ = some (.int .i64 a0_1) := (blk_cell BK106.out 1).trans rfl
                                            have hcz73_2 : wc.cell? ⟨gb106, 2, none⟩ = some (.int .i64 a0_2) := (blk_cell BK106.out 2).trans rfl
                                            have hcz73_3 : wc.cell? ⟨gb106, 3, none⟩ = some (.int .i64 a0_3) := (blk_cell BK106.out 3).trans rfl
                                            have hfz73_0 := blk_frozen BK106.out 0
                                            have hfz73_1 := blk_frozen BK106.out 1
                                            have hfz73_2 := blk_frozen BK106.out 2
                                            have hfz73_3 := blk_frozen BK106.out 3
                                            have hcz74_0 : wc.cell? ⟨gb121, 0, none⟩ = some (.int .i64 t116) := (blk_cell BK121.out 0).trans rfl
                                            have hcz74_1 : wc.cell? ⟨gb121, 1, none⟩ = some (.int .i64 t117) := (blk_cell BK121.out 1).trans rfl
                                            have hcz74_2 : wc.cell? ⟨gb121, 2, none⟩ = some (.int .i64 t118) := (blk_cell BK121.out 2).trans rfl
                                            have hcz74_3 : wc.cell? ⟨gb121, 3, none⟩ = some (.int .i64 t119) := (blk_cell BK121.out 3).trans rfl
                                            have hfz74_0 := blk_frozen BK121.out 0
                                            have hfz74_1 := blk_frozen BK121.out 1
                                            have hfz74_2 := blk_frozen BK121.out 2
                                            have hfz74_3 := blk_frozen BK121.out 3
                                            try go_wp2_with (first | ((with_reducible refine gate_callee (f := 99) rfl ?_); refine goesL_ (some 82) rfl rfl Try.func99 (by kernel_rfl) rfl #[.agg #[.int .i64 a0_0, .int .i64 a0_1, .int .i64 a0_2, .int .i64 a0_3], .int .i64 (wrap64 (((rd_T83 l1 x11_1).f0) + t120)), .agg #[.int .i64 t116, .int .i64 t117, .int .i64 t118, .int .i64 t119]] rfl (by (try simp only [List.map_toArray, List.map_cons, List.map_nil]); first | done | rfl | (simp only [List.length_drop, List.length_take]; rfl)) ?_; (with_reducible refine (xL3Id.calls a0_0 a0_1 a0_2 a0_3 (wrap64 (((rd_T83 l1 x11_1).f0) + t120)) t116 t117 t118 t119 t126 _ A50.out).mono ?_); rintro e w75 ⟨rfl, hb⟩; refine ⟨_, rfl, ?_⟩; have n0_ := Aside0.mk (Kd.R_below (by (with_reducible repeat (first | apply Kd.R_alloc | apply Kd.R_drewN | apply Kd.R_drew)); exact HO_9.out) hb); have n1_ := Aside0.mk (Kd.R_below (by (with_reducible repeat (first | apply Kd.R_alloc | apply Kd.R_drewN | apply Kd.R_drew)); exact HO_10.out) hb); have n2_ := Aside0.mk (blk_below (g := gb106) (o := .cells #[.int .i64 a0_0, .int .i64 a0_1, .int .i64 a0_2, .int .i64 a0_3] 27 (0, 0)) (by (with_reducible repeat (first | refine blk_drewN ?_ _ | refine blk_drew ?_ | refine blk_alloc ?_ _)); exact BK106.out) hb); have n3_ := Aside0.mk (blk_below (g := gb121) (o := .cells #[.int .i64 t116, .int .i64 t117, .int .i64 t118, .int .i64 t119] 22 (0, 0)) (by (with_reducible repeat (first | refine blk_drewN ?_ _ | refine blk_drew ?_ | refine blk_alloc ?_ _)); exact BK121.out) hb); have n4_ := Aside0.mk (below_step (by repeat (first | (with_reducible first | exact HB.out | apply below_alloc | apply pw_below_drewN | apply below_drew1 | refine below_set ?_ GE106.out | refine below_set ?_ GE121.out) | exact HB.out)) hb); clear HO_9; clear HO_10; clear BK106; clear BK121; clear HB; have HO_9 := n0_; have HO_10 := n1_; have BK106 := n2_; have BK121 := n3_; have HB := n4_; clear n0_ n1_ n2_ n3_ n4_; (try clear hb); (try clear hb2); (try clear hk); (try clear hi); obtain ⟨Ao76, co76, eo76⟩ := Kd.R_slice HO_10.out; subst eo76; have p127 : 0 ≤ (t126 : Int) := of_decide_eq_true (by first | (with_reducible assumption) | assumption); have q127 : t126 < (x10_2.length : Int) := of_decide_eq_true (by first | (with_reducible assumption) | assumption); obtain ⟨ad127, e127, hx127_0⟩ := Kd.at_int (Kd.R_reads' HO_10.out).2.2 t126 p127 q127; cases e127; replace p127 := eq_true p127; replace q127 := eq_true q127))
                                            have n0_ := Aside0.mk (Kd.R_drew HO_9.out)
                                            have n1_ := Aside0.mk (Kd.R_drew HO_10.out)
                                            have n2_ := Aside0.mk (blk_drew BK106.out)
                                            have n3_ := Aside0.mk (blk_drew BK121.out)
                                            have n4_ := Aside0.mk (below_drew1 HB.out)
                                            clear HO_9
                                            clear HO_10
                                            clear BK106
                                            clear BK121
                                            clear HB
                                            have HO_9 := n0_
                                            have HO_10 := n1_
                                            have BK106 := n2_
                                            have BK121 := n3_
                                            have HB := n4_
                                            clear n0_ n1_ n2_ n3_ n4_
                                            have p132 : 0 ≤ (t126 : Int) := of_decide_eq_true (by first | (with_reducible assumption) | assumption)
                                            have q132 : t126 < (x10_2.length : Int) := of_decide_eq_true (by first | (with_reducible assumption) | assumption)
                                            obtain ⟨ad132, e132, hx132_0⟩ := Kd.at_int (Kd.R_reads' HO_10.out).2.2 t126 p132 q132
                                            obtain rfl : ad127 = ad132 := (by injection e132)
                                            replace p132 := eq_true p132
                                            replace q132 := eq_true q132
                                            have p133 : 0 ≤ (t126 : Int) := of_decide_eq_true (by first | (with_reducible assumption) | assumption)
                                            have q133 : t126 < (x10_2.length : Int) := of_decide_eq_true (by first | (with_reducible assumption) | assumption)
                                            obtain ⟨ad133, e133, hx133_0⟩ := Kd.at_int (Kd.R_reads' HO_10.out).2.2 t126 p133 q133
                                            obtain rfl : ad127 = ad133 := (by injection e133)
                                            replace p133 := eq_true p133
                                            replace q133 := eq_true q133
                                            obtain ⟨Ao78, co78, eo78⟩ := Kd.R_slice HO_9.out
                                            (first | subst eo78 | (injection eo78 with f1_ f2_ f3_; have f4_ := f1_.symm; have f5_ := f3_.symm; clear f1_ f2_ f3_; subst f4_; subst f5_))
                                            have p134 : 0 ≤ ((ji67) : Int) := of_decide_eq_true (by first | (with_reducible assumption) | assumption)
                                            have q134 : (ji67) < (x9_2.length : Int) := of_decide_eq_true (by first | (with_reducible assumption) | assumption)
                                            obtain ⟨ad134, e134, hx134_0, hx134_1, hx134_2, hx134_3, hx134_4, hx134_5⟩ := at_T83 (Kd.R_reads' HO_9.out).2.2 (ji67) p134 q134
                                            cases e134
                                            replace p134 := eq_true p134
                                            replace q134 := eq_true q134
                                            refine start_ (n := 20) (S := fun w' => w'.cell? (ad127.add (t126).toNat) = some (.int .i64 (rd x10_2 t126)) ∧ w'.cell? (ad127.add (t126).toNat) = some (.int .i64 (rd x10_2 t126)) ∧ w'.cell? (ad134.add (((ji67)).toNat * 6)) = some (.int .i64 ((rd_T83 x9_2 (ji67)).f0)) ∧ w'.cell? ⟨(ad134.add (((ji67)).toNat * 6)).block, (ad134.add (((ji67)).toNat * 6)).off + 1, none⟩ = some (.int .i64 ((rd_T83 x9_2 (ji67)).f1.f0)) ∧ w'.cell? ⟨(ad134.add (((ji67)).toNat * 6)).block, (ad134.add (((ji67)).toNat * 6)).off + 2, none⟩ = some (.int .i64 ((rd_T83 x9_2 (ji67)).f1.f1)) ∧ w'.cell? ⟨(ad134.add (((ji67)).toNat * 6)).block, (ad134.add (((ji67)).toNat * 6)).off + 3, none⟩ = some (.int .i64 ((rd_T83 x9_2 (ji67)).f1.f2)) ∧ w'.cell? ⟨(ad134.add (((ji67)).toNat * 6)).block, (ad134.add (((ji67)).toNat * 6)).off + 4, none⟩ = some (.int .i64 ((rd_T83 x9_2 (ji67)).f1.f3)) ∧ w'.cell? ⟨(ad134.add (((ji67)).toNat * 6)).block, (ad134.add (((ji67)).toNat * 6)).off + 5, none⟩ = some (.int .i64 ((rd_T83 x9_2 (ji67)).f2))) (ds := [19]) #[false, false, false, false, false, false, false, false, false, false, false, false, false, false, false, false, false, false, false, false] (by kernel_rfl) rfl rfl ⟨hx132_0, hx133_0, hx134_0, hx134_1, hx134_2, hx134_3, hx134_4, hx134_5⟩ (fun hHeld => ?_); refine with_tabW spec_l3Next.tab19 spec_l3Next.bits19 (fun HT_ HW_ => ?_)
                                            generalize w75.drew = w77 at HO_9 HO_10 BK106 BK121 HB hx132_0 hx133_0 hx134_0 hx134_1 hx134_2 hx134_3 hx134_4 hx134_5 hHeld ⊢
                                            refine pure_ (i := 0) (N := some 122) (v := ?_) (a' := ?_) #[true, false, false, false, false, false, false, false, false, false, false, false, false, false, false, false, false, false, false, false] rfl rfl (any_of HT_.out (by kernel_rfl)) (fun _ _ _ h => h) (Or.inl ⟨by rfl, ?_⟩) ?_ ?_
                                            rotate_left
                                            · intro w'
                                              go_simp
                                              with_reducible rfl
                                            rotate_left
                                            · simp only [Act.put, List.setIfInBounds_toArray, List.set_cons_zero, List.set_cons_succ, i64_w, i32_w]
                                              rfl
                                            refine pure_ (i := 1) (N := some 123) (v := ?_) (a' := ?_) #[true, true, false, false, false, false, false, false, false, false, false, false, false, false, false, false, false, false, false, false] rfl rfl (any_of HT_.out (by kernel_rfl)) (fun _ _ _ h => h) (Or.inl ⟨by rfl, ?_⟩) ?_ ?_
                                            rotate_left
                                            · intro w'
                                              go_simp
                                              with_reducible rfl
                                            rotate_left
                                            · simp only [Act.put, List.setIfInBounds_toArray, List.set_cons_zero, List.set_cons_succ, i64_w, i32_w]
                                              rfl
                                            refine pure_ (i := 2) (N := some 124) (v := ?_) (a' := ?_) #[true, true, true, false, false, false, false, false, false, false, false, false, false, false, false, false, false, false, false, false] rfl rfl (any_of HT_.out (by kernel_rfl)) (fun _ _ _ h => h) (Or.inl ⟨by rfl, ?_⟩) ?_ ?_
                                            rotate_left
                                            · intro w'
                                              go_simp
                                              with_reducible rfl
                                            rotate_left
                                            · simp only [Act.put, List.setIfInBounds_toArray, List.set_cons_zero, List.set_cons_succ, i64_w, i32_w]
                                              rfl
                                            refine pure_ (i := 3) (N := some 125) (v := ?_) (a' := ?_) #[true, true, true, true, false, false, false, false, false, false, false, false, false, false, false, false, false, false, false, false] rfl rfl (any_of HT_.out (by kernel_rfl)) (fun _ _ _ h => h) (Or.inl ⟨by rfl, ?_⟩) ?_ ?_
                                            rotate_left
                                            · intro w'
                                              go_simp
                                              with_reducible rfl
                                            rotate_left
                                            · simp only [Act.put, List.setIfInBounds_toArray, List.set_cons_zero, List.set_cons_succ, i64_w, i32_w]
                                              rfl
                                            refine pure_ (i := 6) (N := some 128) (v := ?_) (a' := ?_) #[true, true, true, true, false, false, true, false, false, false, false, false, false, false, false, false, false, false, false, false] rfl rfl (any_of HT_.out (by kernel_rfl)) (fun _ _ _ h => h) (Or.inl ⟨by rfl, ?_⟩) ?_ ?_
                                            rotate_left
                                            · intro w'
                                              go_simp
                                              with_reducible rfl
                                            rotate_left
                                            · simp only [Act.put, List.setIfInBounds_toArray, List.set_cons_zero, List.set_cons_succ, i64_w, i32_w]
                                              rfl
                                            refine pure_ (i := 7) (N := some 129) (v := ?_) (a' := ?_) #[true, true, true, true, false, false, true, true, false, false, false, false, false, false, false, false, false, false, false, false] rfl rfl (any_of HT_.out (by kernel_rfl)) (fun _ _ _ h => h) (Or.inl ⟨by rfl, ?_⟩) ?_ ?_
                                            rotate_left
                                            · intro w'
                                              go_simp
                                              with_reducible rfl
                                            rotate_left
                                            · simp only [Act.put, List.setIfInBounds_toArray, List.set_cons_zero, List.set_cons_succ, i64_w, i32_w]
                                              rfl
                                            refine pure_ (i := 8) (N := some 130) (v := ?_) (a' := ?_) #[true, true, true, true, false, false, true, true, true, false, false, false, false, false, false, false, false, false, false, false] rfl rfl (any_of HT_.out (by kernel_rfl)) (fun _ _ _ h => h) (Or.inl ⟨by rfl, ?_⟩) ?_ ?_
                                            rotate_left
                                            · intro w'
                                              go_simp
                                              with_reducible rfl
                                            rotate_left
                                            · simp only [Act.put, List.setIfInBounds_toArray, List.set_cons_zero, List.set_cons_succ, i64_w, i32_w]
                                              rfl
                                            refine pure_ (i := 9) (N := some 131) (v := ?_) (a' := ?_) #[true, true, true, true, false, false, true, true, true, true, false, false, false, false, false, false, false, false, false, false] rfl rfl (any_of HT_.out (by kernel_rfl)) (fun _ _ _ h => h) (Or.inl ⟨by rfl, ?_⟩) ?_ ?_
                                            rotate_left
                                            · intro w'
                                              go_simp
                                              with_reducible rfl
                                            rotate_left
                                            · simp only [Act.put, List.setIfInBounds_toArray, List.set_cons_zero, List.set_cons_succ, i64_w, i32_w]
                                              rfl
                                            refine pure_ (i := 15) (N := some 137) (v := ?_) (a' := ?_) #[true, true, true, true, false, false, true, true, true, true, false, false, false, false, false, true, false, false, false, false] rfl rfl (any_of HT_.out (by kernel_rfl)) (fun _ _ _ h => h) (Or.inl ⟨by rfl, ?_⟩) ?_ ?_
                                            rotate_left
                                            · intro w'
                                              go_simp
                                              with_reducible rfl
                                            rotate_left
                                            · simp only [Act.put, List.setIfInBounds_toArray, List.set_cons_zero, List.set_cons_succ, i64_w, i32_w]
                                              rfl
                                            refine take_ (i := 4) (N := some 126) (v := ?_) (a' := ?_) #[true, true, true, true, true, false, true, true, true, true, false, false, false, false, false, true, false, false, false, false] rfl rfl (take_ofW HT_.out HW_.out (by kernel_rfl)) (fun _ _ _ h => h) (Or.inl ⟨by rfl, ?_⟩) hHeld ?_ ?_
                                            rotate_left
                                            · rintro w' ⟨s0, s1, s2, s3, s4, s5, s6, s7⟩
                                              go_simp
                                              with_reducible rfl
                                            rotate_left
                                            · simp only [Act.put, List.setIfInBounds_toArray, List.set_cons_zero, List.set_cons_succ, i64_w, i32_w]
                                              rfl
                                            refine pure_ (i := 5) (N := some 127) (v := ?_) (a' := ?_) #[true, true, true, true, true, true, true, true, true, true, false, false, false, false, false, true, false, false, false, false] rfl rfl (any_of HT_.out (by kernel_rfl)) (fun _ _ _ h => h) (Or.inl ⟨by rfl, ?_⟩) ?_ ?_
                                            rotate_left
                                            · intro w'
                                              go_simp
                                              with_reducible rfl
                                            rotate_left
                                            · simp only [Act.put, List.setIfInBounds_toArray, List.set_cons_zero, List.set_cons_succ, i64_w, i32_w]
                                              rfl
                                            refine take_ (i := 10) (N := some 132) (v := ?_) (a' := ?_) #[true, true, true, true, true, true, true, true, true, true, true, false, false, false, false, true, false, false, false, false] rfl rfl (take_ofW HT_.out HW_.out (by kernel_rfl)) (fun _ _ _ h => h) (Or.inl ⟨by rfl, ?_⟩) hHeld ?_ ?_
                                            rotate_left
                                            · rintro w' ⟨s0, s1, s2, s3, s4, s5, s6, s7⟩
                                              go_simp
                                              with_reducible rfl
                                            rotate_left
                                            · simp only [Act.put, List.setIfInBounds_toArray, List.set_cons_zero, List.set_cons_succ, i64_w, i32_w]
                                              rfl
                                            refine pure_ (i := 11) (N := some 133) (v := ?_) (a' := ?_) #[true, true, true, true, true, true, true, true, true, true, true, true, false, false, false, true, false, false, false, false] rfl rfl (any_of HT_.out (by kernel_rfl)) (fun _ _ _ h => h) (Or.inl ⟨by rfl, ?_⟩) ?_ ?_
                                            rotate_left
                                            · intro w'
                                              go_simp
                                              with_reducible rfl
                                            rotate_left
                                            · simp only [Act.put, List.setIfInBounds_toArray, List.set_cons_zero, List.set_cons_succ, i64_w, i32_w]
                                              rfl
                                            refine pure_ (i := 12) (N := some 134) (v := ?_) (a' := ?_) #[true, true, true, true, true, true, true, true, true, true, true, true, true, false, false, true, false, false, false, false] rfl rfl (any_of HT_.out (by kernel_rfl)) (fun _ _ _ h => h) (Or.inl ⟨by rfl, ?_⟩) ?_ ?_
                                            rotate_left
                                            · intro w'
                                              go_simp
                                              with_reducible rfl
                                            rotate_left
                                            · simp only [Act.put, List.setIfInBounds_toArray, List.set_cons_zero, List.set_cons_succ, i64_w, i32_w]
                                              rfl
                                            refine pure_ (i := 13) (N := some 135) (v := ?_) (a' := ?_) #[true, true, true, true, true, true, true, true, true, true, true, true, true, true, false, true, false, false, false, false] rfl rfl (any_of HT_.out (by kernel_rfl)) (fun _ _ _ h => h) (Or.inl ⟨by rfl, ?_⟩) ?_ ?_
                                            rotate_left
                                            · intro w'
                                              go_simp
                                              with_reducible rfl
                                            rotate_left
                                            · simp only [Act.put, List.setIfInBounds_toArray, List.set_cons_zero, List.set_cons_succ, i64_w, i32_w]
                                              rfl
                                            refine take_ (i := 14) (N := some 136) (v := ?_) (a' := ?_) #[true, true, true, true, true, true, true, true, true, true, true, true, true, true, true, true, false, false, false, false] rfl rfl (take_ofW HT_.out HW_.out (by kernel_rfl)) (fun _ _ _ h => h) (Or.inl ⟨by rfl, ?_⟩) hHeld ?_ ?_
                                            rotate_left
                                            · rintro w' ⟨s0, s1, s2, s3, s4, s5, s6, s7⟩
                                              go_simp
                                              with_reducible rfl
                                            rotate_left
                                            · simp only [Act.put, List.setIfInBounds_toArray, List.set_cons_zero, List.set_cons_succ, i64_w, i32_w]
                                              rfl
                                            refine one_ (i := 16) (N := some 138) #[true, true, true, true, true, true, true, true, true, true, true, true, true, true, true, true, true, false, false, false] rfl rfl (one_of HT_.out (by kernel_rfl)) (by decide) (fun K hK => ?_)
                                            refine goes_ Try.func100 (by kernel_rfl) rfl #[.int .i64 ((rd_T83 x9_2 (ji67)).f2), .int .i64 x16_46] (by rfl) rfl rfl (by (try simp only [List.map_toArray, List.map_cons, List.map_nil]); first | done | (simp only [hji67]; rfl) | rfl | (simp only [List.length_drop, List.length_take]; rfl)) ?_
                                            with_reducible refine (spec_l1Least.calls ((rd_T83 x9_2 (ji67)).f2) x16_46 t135 _ A70.out).mono ?_
                                            rintro e w' ⟨rfl, ⟨nd, rfl⟩⟩
                                            refine ⟨_, rfl, ?_⟩
                                            have p71 : 0 ≤ ((ji67) : Int) := of_decide_eq_true (by first | (with_reducible assumption) | assumption)
                                            have q71 : ((ji67) : Int) < ((x9_2.length : Int) : Int) := of_decide_eq_true (by first | (with_reducible assumption) | assumption)
                                            obtain ⟨go71, co71, eo71, gb71, gl71, cl71, HG71⟩ := Kd.R_form HO_9.out (by omega)
                                            (first | cases eo71 | (injection eo71 with ea_ en_ ec_; (first | subst ea_ | (injection ea_ with ea_; subst ea_)); subst ec_; clear en_))
                                            have GB71 := Aside0.mk gb71
                                            have GG71 := Aside0.mk HG71
                                            clear gb71 gl71 HG71
                                            (first | simp only [add_plain] at hx134_0 | skip)
                                            (first | simp only [add_plain] at hx134_1 | skip)
                                            (first | simp only [add_plain] at hx134_2 | skip)
                                            (first | simp only [add_plain] at hx134_3 | skip)
                                            (first | simp only [add_plain] at hx134_4 | skip)
                                            (first | simp only [add_plain] at hx134_5 | skip)
                                            obtain ⟨ce71, hcl71, hM71, hcc71, hfr71⟩ := Kd.R_elem HO_9.out z83 ((ji67) : Int) p71 q71
                                            obtain rfl := k83_openM hM71
                                            have hx71_0 : World.cell? _ ⟨go71, ((ji67) : Int).toNat * 6, none⟩ = some (.int .i64 ((rd_T83 x9_2 (ji67)).f0)) := hcc71 0 _ rfl
                                            have hx71_1 : World.cell? _ ⟨go71, ((ji67) : Int).toNat * 6 + 1, none⟩ = some (.int .i64 ((rd_T83 x9_2 (ji67)).f1.f0)) := hcc71 1 _ rfl
                                            have hx71_2 : World.cell? _ ⟨go71, ((ji67) : Int).toNat * 6 + 2, none⟩ = some (.int .i64 ((rd_T83 x9_2 (ji67)).f1.f1)) := hcc71 2 _ rfl
                                            have hx71_3 : World.cell? _ ⟨go71, ((ji67) : Int).toNat * 6 + 3, none⟩ = some (.int .i64 ((rd_T83 x9_2 (ji67)).f1.f2)) := hcc71 3 _ rfl
                                            have hx71_4 : World.cell? _ ⟨go71, ((ji67) : Int).toNat * 6 + 4, none⟩ = some (.int .i64 ((rd_T83 x9_2 (ji67)).f1.f3)) := hcc71 4 _ rfl
                                            have hx71_5 : World.cell? _ ⟨go71, ((ji67) : Int).toNat * 6 + 5, none⟩ = some (.int .i64 ((rd_T83 x9_2 (ji67)).f2)) := hcc71 5 _ rfl
                                            have hf71_0 : World.frozen? _ ⟨go71, ((ji67) : Int).toNat * 6, none⟩ = false := hfr71 0
                                            have hf71_1 : World.frozen? _ ⟨go71, ((ji67) : Int).toNat * 6 + 1, none⟩ = false := hfr71 1
                                            have hf71_2 : World.frozen? _ ⟨go71, ((ji67) : Int).toNat * 6 + 2, none⟩ = false := hfr71 2
                                            have hf71_3 : World.frozen? _ ⟨go71, ((ji67) : Int).toNat * 6 + 3, none⟩ = false := hfr71 3
                                            have hf71_4 : World.frozen? _ ⟨go71, ((ji67) : Int).toNat * 6 + 4, none⟩ = false := hfr71 4
                                            have hf71_5 : World.frozen? _ ⟨go71, ((ji67) : Int).toNat * 6 + 5, none⟩ = false := hfr71 5
                                            clear hcl71 hcc71 hfr71 hM71
                                            replace p71 := eq_true p71
                                            replace q71 := eq_true q71
                                            obtain ⟨ce79, hcl79, hM79, hcc79, hfr79⟩ := Kd.R_elem HO_9.out z83 ((ji67) : Int) (of_decide_eq_true (by first | (with_reducible assumption) | assumption)) (by have h_ : ((ji67) : Int) < ((x9_2.length : Int) : Int) := of_decide_eq_true (by first | (with_reducible assumption) | assumption); first | exact h_ | (have e_ := (Kd.R_reads' HO_9.out).1; omega) | simpa using h_)
                                            obtain rfl := k83_openM hM79
                                            have HP79 := (Kd.R_seg HO_9.out ((ji67) : Int) (of_decide_eq_true (by first | (with_reducible assumption) | assumption)) (by have h_ : ((ji67) : Int) < ((x9_2.length : Int) : Int) := of_decide_eq_true (by first | (with_reducible assumption) | assumption); first | exact h_ | (have e_ := (Kd.R_reads' HO_9.out).1; omega) | simpa using h_) (seg := [.int .i64 t135]) (j := 5) hcl79 hcc79 (show 6 ≤ 6 from by decide) (x' := (⟨(rd_T83 x9_2 (ji67)).f0, (⟨(rd_T83 x9_2 (ji67)).f1.f0, (rd_T83 x9_2 (ji67)).f1.f1, (rd_T83 x9_2 (ji67)).f1.f2, (rd_T83 x9_2 (ji67)).f1.f3⟩ : S22), t135⟩ : S83)) (k83_mkM _ _ _ (⟨(rd_T83 x9_2 (ji67)).f0, (⟨(rd_T83 x9_2 (ji67)).f1.f0, (rd_T83 x9_2 (ji67)).f1.f1, (rd_T83 x9_2 (ji67)).f1.f2, (rd_T83 x9_2 (ji67)).f1.f3⟩ : S22), t135⟩ : S83) ) (fun _ hk => hk)).1
                                            rw [← Ny136.out] at HP79
                                            have HQ79 := Aside0.mk HP79
                                            clear hcl79 hcc79 hfr79 hM79 HP79
                                            refine hK.out _ _ ⟨hHeld.1, hHeld.2.1, hHeld.2.2.1, hHeld.2.2.2.1, hHeld.2.2.2.2.1, hHeld.2.2.2.2.2.1, hHeld.2.2.2.2.2.2.1, hHeld.2.2.2.2.2.2.2⟩ (fun hHeld => ?_)
                                            clear hK K
                                            refine norm_ (a' := ?_) ?_ ?_
                                            rotate_left
                                            · show Act.put _ (some 138) _ = _
                                              simp only [Act.put, List.setIfInBounds_toArray, List.set_cons_zero, List.set_cons_succ, i64_w, i32_w]
                                              rfl
                                            refine pure_ (i := 17) (N := some 139) (v := ?_) (a' := ?_) #[true, true, true, true, true, true, true, true, true, true, true, true, true, true, true, true, true, true, false, false] rfl rfl (any_of HT_.out (by kernel_rfl)) (fun _ _ _ h => h) (Or.inl ⟨by rfl, ?_⟩) ?_ ?_
                                            rotate_left
                                            · intro w'
                                              go_simp
                                              with_reducible rfl
                                            rotate_left
                                            · simp only [Act.put, List.setIfInBounds_toArray, List.set_cons_zero, List.set_cons_succ, i64_w, i32_w]
                                              rfl
                                            refine pure_ (i := 18) (N := some 140) (v := ?_) (a' := ?_) #[true, true, true, true, true, true, true, true, true, true, true, true, true, true, true, true, true, true, true, false] rfl rfl (any_of HT_.out (by kernel_rfl)) (fun _ _ _ h => h) (Or.inl ⟨by rfl, ?_⟩) ?_ ?_
                                            rotate_left
                                            · intro w'
                                              go_simp
                                              with_reducible rfl
                                            rotate_left
                                            · simp only [Act.put, List.setIfInBounds_toArray, List.set_cons_zero, List.set_cons_succ, i64_w, i32_w]
                                              rfl
                                            refine last_ (i := 19) (N := none) #[true, true, true, true, true, true, true, true, true, true, true, true, true, true, true, true, true, true, true, true] rfl rfl (one_of HT_.out (by kernel_rfl)) (by decide) (fun K hK => ?_)
                                            refine skip_ (w1 := ?_) (by rfl) rfl ?_ ?_
                                            rotate_left
                                            · go_simp
                                              rfl
                                            refine hK.out _ _ ?_
                                            clear hK K
                                            refine done_ (done_of HT_.out (by kernel_rfl)) ?_
                                            try go_wp2
                                            go_roundg kj46
                                            case measure => have := HK1.out; have := HK2.out; have := HJ22.out; have := HJ46.out; omega
                                            case rel => exact ⟨(y136), (x10_2), (wrap64 (x12_2 + 1)), (by first | rfl | (simp; done) | (simp [*]; done)), H', ⟨by have := HK1.out; have := HK2.out; have := HJ22.out; have := HJ46.out; omega⟩, ⟨by (with_reducible repeat (first | apply Kd.R_alloc | apply Kd.R_drewN | apply Kd.R_drew)); exact HQ79.out⟩, ⟨by (with_reducible repeat (first | apply Kd.R_alloc | apply Kd.R_drewN | apply Kd.R_drew)); exact Kd.R_mono (Kd.R_far (p := ⟨go71, ((ji67) : Int).toNat * 6 + 5, none⟩) (Kd.R_types HO_10.out GG71.out (by decide)) (fun _ hk => hk.2) (.int .i64 t135)) (fun _ hk => trivial)⟩, ⟨by (with_reducible repeat (first | refine blk_drewN ?_ _ | refine blk_drew ?_ | refine blk_alloc ?_ _)); refine blk_far ?_ (by have h_ := Kd.R_ne HO_9.out BK106.out (by decide); intro e_; exact h_ (by rw [e_]; rfl)) _; (with_reducible repeat (first | refine blk_drewN ?_ _ | refine blk_drew ?_ | refine blk_alloc ?_ _)); exact BK106.out⟩, ⟨by repeat (first | (with_reducible first | exact HB.out | apply below_alloc | apply pw_below_drewN | apply below_drew1 | refine below_set ?_ GB71.out | refine below_set ?_ GE106.out | refine below_set ?_ GE121.out) | exact HB.out)⟩⟩
                                          · rw [if_neg c69] at H
                                            exact absurd H (by simp)
                                        · rw [if_neg c68] at H
                                          exact absurd H (by simp)
                                      · replace c66 := Bool.eq_false_iff.mpr c66
                                        subst c66
                                        have H1 : (if 0 ≤ (wrap64 ((rd x10_2 t126) - 1)) then (if (wrap64 ((rd x10_2 t126) - 1)) < (x9_2.length : Int) then (spec_l3Next.l1 kj46 l1 a2 false (x9_2.set ((wrap64 ((rd x10_2 t126) - 1)) : Int).toNat (⟨(rd_T83 x9_2 (wrap64 ((rd x10_2 t126) - 1))).f0, (⟨(rd_T83 x9_2 (wrap64 ((rd x10_2 t126) - 1))).f1.f0, (rd_T83 x9_2 (wrap64 ((rd x10_2 t126) - 1))).f1.f1, (rd_T83 x9_2 (wrap64 ((rd x10_2 t126) - 1))).f1.f2, (rd_T83 x9_2 (wrap64 ((rd x10_2 t126) - 1))).f1.f3⟩ : S22), wrap64 (((rd_T83 x9_2 (wrap64 ((rd x10_2 t126) - 1))).f2) + x16_46)⟩ : S83)) x10_2 x11_1 (wrap64 (x12_2 + 1)) a0_0 a0_1 a0_2 a0_3) else (none)) else (none)) = some r := by rw [if_neg (show ¬ (false = true) by decide)] at H; exact H
                                        clear H
                                        have H := H1
                                        clear H1
                                        obtain ⟨ji80, hji80⟩ : ∃ j_ : Int, (wrap64 ((rd x10_2 t126) - 1)) = j_ := ⟨_, rfl⟩
                                        replace H : (if 0 ≤ (ji80) then (if (ji80) < (x9_2.length : Int) then (spec_l3Next.l1 kj46 l1 a2 false (x9_2.set ((ji80) : Int).toNat (⟨(rd_T83 x9_2 (ji80)).f0, (⟨(rd_T83 x9_2 (ji80)).f1.f0, (rd_T83 x9_2 (ji80)).f1.f1, (rd_T83 x9_2 (ji80)).f1.f2, (rd_T83 x9_2 (ji80)).f1.f3⟩ : S22), wrap64 (((rd_T83 x9_2 (ji80)).f2) + x16_46)⟩ : S83)) x10_2 x11_1 (wrap64 (x12_2 + 1)) a0_0 a0_1 a0_2 a0_3) else (none)) else (none)) = some r := by first | (rw [hji80] at H; exact H) | (simp only [hji80] at H ⊢; exact H)
                                        (try rw [hji80] at A50)
                                        have hji80w : (IntKind.i64.wrap ((rd x10_2 t126) - 1)) = ji80 := (i64_w _).trans hji80
                                        by_cases c81 : 0 ≤ (ji80)
                                        · rw [if_pos c81] at H
                                          have c81b0 : decide (0 ≤ (ji80)) = true := decide_eq_true c81
                                          clear c81
                                          by_cases c82 : (ji80) < (x9_2.length : Int)
                                          · rw [if_pos c82] at H
                                            have c82b0 : decide ((ji80) < (x9_2.length : Int)) = true := decide_eq_true c82
                                            clear c82
                                            obtain ⟨y140, hy140⟩ : ∃ y_ : List (S83), y_ = (x9_2.set ((ji80) : Int).toNat (⟨(rd_T83 x9_2 (ji80)).f0, (⟨(rd_T83 x9_2 (ji80)).f1.f0, (rd_T83 x9_2 (ji80)).f1.f1, (rd_T83 x9_2 (ji80)).f1.f2, (rd_T83 x9_2 (ji80)).f1.f3⟩ : S22), wrap64 (((rd_T83 x9_2 (ji80)).f2) + x16_46)⟩ : S83)) := ⟨_, rfl⟩
                                            replace H : (spec_l3Next.l1 kj46 l1 a2 false y140 x10_2 x11_1 (wrap64 (x12_2 + 1)) a0_0 a0_1 a0_2 a0_3) = some r := by first | (rw [hy140]; with_reducible exact H) | (have H2_ := (Option.bind_some _ _).symm.trans H; rw [hy140]; with_reducible exact H2_) | (have H2_ := (Option.bind_some _ _).symm.trans H; with_reducible exact H2_) | with_reducible exact H | (rw [hy140]; exact H) | exact H
                                            have Ny140 := Aside0.mk hy140
                                            clear hy140
                                            have H' := Aside0.mk H
                                            clear H
                                            have hnb84 := NB106_121.out
                                            have hnc84 := NB121_106.out
                                            have hcz85_0 : wc.cell? ⟨gb106, 0, none⟩ = some (.int .i64 a0_0) := (blk_cell BK106.out 0).trans rfl
                                            have hcz85_1 : wc.cell? ⟨gb106, 1, none⟩ = some (.int .i64 a0_1) := (blk_cell BK106.out 1).trans rfl
                                            have hcz85_2 : wc.cell? ⟨gb106, 2, none⟩ = some (.int .i64 a0_2) := (blk_cell BK106.out 2).trans rfl
                                            have hcz85_3 : wc.cell? ⟨gb106, 3, none⟩ = some (.int .i64 a0_3) := (blk_cell BK106.out 3).trans rfl
                                            have hfz85_0 := blk_frozen BK106.out 0
                                            have hfz85_1 := blk_frozen BK106.out 1
                                            have hfz85_2 := blk_frozen BK106.out 2
                                            have hfz85_3 := blk_frozen BK106.out 3
                                            have hcz86_0 : wc.cell? ⟨gb121, 0, none⟩ = some (.int .i64 t116) := (blk_cell BK121.out 0).trans rfl
                                            have hcz86_1 : wc.cell? ⟨gb121, 1, none⟩ = some (.int .i64 t117) := (blk_cell BK121.out 1).trans rfl
                                            have hcz86_2 : wc.cell? ⟨gb121, 2, none⟩ = some (.int .i64 t118) := (blk_cell BK121.out 2).trans rfl
                                            have hcz86_3 : wc.cell? ⟨gb121, 3, none⟩ = some (.int .i64 t119) := (blk_cell BK121.out 3).trans rfl
                                            have hfz86_0 := blk_frozen BK121.out 0
                                            have hfz86_1 := blk_frozen BK121.out 1
                                            have hfz86_2 := blk_frozen BK121.out 2
                                            have hfz86_3 := blk_frozen BK121.out 3
                                            try go_wp2_with (first | ((with_reducible refine gate_callee (f := 99) rfl ?_); refine goesL_ (some 82) rfl rfl Try.func99 (by kernel_rfl) rfl #[.agg #[.int .i64 a0_0, .int .i64 a0_1, .int .i64 a0_2, .int .i64 a0_3], .int .i64 (wrap64 (((rd_T83 l1 x11_1).f0) + t120)), .agg #[.int .i64 t116, .int .i64 t117, .int .i64 t118, .int .i64 t119]] rfl (by (try simp only [List.map_toArray, List.map_cons, List.map_nil]); first | done | rfl | (simp only [List.length_drop, List.length_take]; rfl)) ?_; (with_reducible refine (xL3Id.calls a0_0 a0_1 a0_2 a0_3 (wrap64 (((rd_T83 l1 x11_1).f0) + t120)) t116 t117 t118 t119 t126 _ A50.out).mono ?_); rintro e w87 ⟨rfl, hb⟩; refine ⟨_, rfl, ?_⟩; have n0_ := Aside0.mk (Kd.R_below (by (with_reducible repeat (first | apply Kd.R_alloc | apply Kd.R_drewN | apply Kd.R_drew)); exact HO_9.out) hb); have n1_ := Aside0.mk (Kd.R_below (by (with_reducible repeat (first | apply Kd.R_alloc | apply Kd.R_drewN | apply Kd.R_drew)); exact HO_10.out) hb); have n2_ := Aside0.mk (blk_below (g := gb106) (o := .cells #[.int .i64 a0_0, .int .i64 a0_1, .int .i64 a0_2, .int .i64 a0_3] 27 (0, 0)) (by (with_reducible repeat (first | refine blk_drewN ?_ _ | refine blk_drew ?_ | refine blk_alloc ?_ _)); exact BK106.out) hb); have n3_ := Aside0.mk (blk_below (g := gb121) (o := .cells #[.int .i64 t116, .int .i64 t117, .int .i64 t118, .int .i64 t119] 22 (0, 0)) (by (with_reducible repeat (first | refine blk_drewN ?_ _ | refine blk_drew ?_ | refine blk_alloc ?_ _)); exact BK121.out) hb); have n4_ := Aside0.mk (below_step (by repeat (first | (with_reducible first | exact HB.out | apply below_alloc | apply pw_below_drewN | apply below_drew1 | refine below_set ?_ GE106.out | refine below_set ?_ GE121.out) | exact HB.out)) hb); clear HO_9; clear HO_10; clear BK106; clear BK121; clear HB; have HO_9 := n0_; have HO_10 := n1_; have BK106 := n2_; have BK121 := n3_; have HB := n4_; clear n0_ n1_ n2_ n3_ n4_; (try clear hb); (try clear hb2); (try clear hk); (try clear hi); obtain ⟨Ao88, co88, eo88⟩ := Kd.R_slice HO_10.out; subst eo88; have p127 : 0 ≤ (t126 : Int) := of_decide_eq_true (by first | (with_reducible assumption) | assumption); have q127 : t126 < (x10_2.length : Int) := of_decide_eq_true (by first | (with_reducible assumption) | assumption); obtain ⟨ad127, e127, hx127_0⟩ := Kd.at_int (Kd.R_reads' HO_10.out).2.2 t126 p127 q127; cases e127; replace p127 := eq_true p127; replace q127 := eq_true q127))
                                            have n0_ := Aside0.mk (Kd.R_drew HO_9.out)
                                            have n1_ := Aside0.mk (Kd.R_drew HO_10.out)
                                            have n2_ := Aside0.mk (blk_drew BK106.out)
                                            have n3_ := Aside0.mk (blk_drew BK121.out)
                                            have n4_ := Aside0.mk (below_drew1 HB.out)
                                            clear HO_9
                                            clear HO_10
                                            clear BK106
                                            clear BK121
                                            clear HB
                                            have HO_9 := n0_
                                            have HO_10 := n1_
                                            have BK106 := n2_
                                            have BK121 := n3_
                                            have HB := n4_
                                            clear n0_ n1_ n2_ n3_ n4_
                                            have p137 : 0 ≤ (t126 : Int) := of_decide_eq_true (by first | (with_reducible assumption) | assumption)
                                            have q137 : t126 < (x10_2.length : Int) := of_decide_eq_true (by first | (with_reducible assumption) | assumption)
                                            obtain ⟨ad137, e137, hx137_0⟩ := Kd.at_int (Kd.R_reads' HO_10.out).2.2 t126 p137 q137
                                            obtain rfl : ad127 = ad137 := (by injection e137)
                                            replace p137 := eq_true p137
                                            replace q137 := eq_true q137
                                            have p138 : 0 ≤ (t126 : Int) := of_decide_eq_true (by first | (with_reducible assumption) | assumption)
                                            have q138 : t126 < (x10_2.length : Int) := of_decide_eq_true (by first | (with_reducible assumption) | assumption)
                                            obtain ⟨ad138, e138, hx138_0⟩ := Kd.at_int (Kd.R_reads' HO_10.out).2.2 t126 p138 q138
                                            obtain rfl : ad127 = ad138 := (by injection e138)
                                            replace p138 := eq_true p138
                                            replace q138 := eq_true q138
                                            obtain ⟨Ao90, co90, eo90⟩ := Kd.R_slice HO_9.out
                                            (first | subst eo90 | (injection eo90 with f1_ f2_ f3_; have f4_ := f1_.symm; have f5_ := f3_.symm; clear f1_ f2_ f3_; subst f4_; subst f5_))
                                            have p139 : 0 ≤ ((ji80) : Int) := of_decide_eq_true (by first | (with_reducible assumption) | assumption)
                                            have q139 : (ji80) < (x9_2.length : Int) := of_decide_eq_true (by first | (with_reducible assumption) | assumption)
                                            obtain ⟨ad139, e139, hx139_0, hx139_1, hx139_2, hx139_3, hx139_4, hx139_5⟩ := at_T83 (Kd.R_reads' HO_9.out).2.2 (ji80) p139 q139
                                            cases e139
                                            replace p139 := eq_true p139
                                            replace q139 := eq_true q139
                                            have p83 : 0 ≤ ((ji80) : Int) := of_decide_eq_true (by first | (with_reducible assumption) | assumption)
                                            have q83 : ((ji80) : Int) < ((x9_2.length : Int) : Int) := of_decide_eq_true (by first | (with_reducible assumption) | assumption)
                                            obtain ⟨go83, co83, eo83, gb83, gl83, cl83, HG83⟩ := Kd.R_form HO_9.out (by omega)
                                            (first | cases eo83 | (injection eo83 with ea_ en_ ec_; (first | subst ea_ | (injection ea_ with ea_; subst ea_)); subst ec_; clear en_))
                                            have GB83 := Aside0.mk gb83
                                            have GG83 := Aside0.mk HG83
                                            clear gb83 gl83 HG83
                                            (first | simp only [add_plain] at hx139_0 | skip)
                                            (first | simp only [add_plain] at hx139_1 | skip)
                                            (first | simp only [add_plain] at hx139_2 | skip)
                                            (first | simp only [add_plain] at hx139_3 | skip)
                                            (first | simp only [add_plain] at hx139_4 | skip)
                                            (first | simp only [add_plain] at hx139_5 | skip)
                                            obtain ⟨ce83, hcl83, hM83, hcc83, hfr83⟩ := Kd.R_elem HO_9.out z83 ((ji80) : Int) p83 q83
                                            obtain rfl := k83_openM hM83
                                            have hx83_0 : World.cell? _ ⟨go83, ((ji80) : Int).toNat * 6, none⟩ = some (.int .i64 ((rd_T83 x9_2 (ji80)).f0)) := hcc83 0 _ rfl
                                            have hx83_1 : World.cell? _ ⟨go83, ((ji80) : Int).toNat * 6 + 1, none⟩ = some (.int .i64 ((rd_T83 x9_2 (ji80)).f1.f0)) := hcc83 1 _ rfl
                                            have hx83_2 : World.cell? _ ⟨go83, ((ji80) : Int).toNat * 6 + 2, none⟩ = some (.int .i64 ((rd_T83 x9_2 (ji80)).f1.f1)) := hcc83 2 _ rfl
                                            have hx83_3 : World.cell? _ ⟨go83, ((ji80) : Int).toNat * 6 + 3, none⟩ = some (.int .i64 ((rd_T83 x9_2 (ji80)).f1.f2)) := hcc83 3 _ rfl
                                            have hx83_4 : World.cell? _ ⟨go83, ((ji80) : Int).toNat * 6 + 4, none⟩ = some (.int .i64 ((rd_T83 x9_2 (ji80)).f1.f3)) := hcc83 4 _ rfl
                                            have hx83_5 : World.cell? _ ⟨go83, ((ji80) : Int).toNat * 6 + 5, none⟩ = some (.int .i64 ((rd_T83 x9_2 (ji80)).f2)) := hcc83 5 _ rfl
                                            have hf83_0 : World.frozen? _ ⟨go83, ((ji80) : Int).toNat * 6, none⟩ = false := hfr83 0
                                            have hf83_1 : World.frozen? _ ⟨go83, ((ji80) : Int).toNat * 6 + 1, none⟩ = false := hfr83 1
                                            have hf83_2 : World.frozen? _ ⟨go83, ((ji80) : Int).toNat * 6 + 2, none⟩ = false := hfr83 2
                                            have hf83_3 : World.frozen? _ ⟨go83, ((ji80) : Int).toNat * 6 + 3, none⟩ = false := hfr83 3
                                            have hf83_4 : World.frozen? _ ⟨go83, ((ji80) : Int).toNat * 6 + 4, none⟩ = false := hfr83 4
                                            have hf83_5 : World.frozen? _ ⟨go83, ((ji80) : Int).toNat * 6 + 5, none⟩ = false := hfr83 5
                                            clear hcl83 hcc83 hfr83 hM83
                                            replace p83 := eq_true p83
                                            replace q83 := eq_true q83
                                            obtain ⟨ce91, hcl91, hM91, hcc91, hfr91⟩ := Kd.R_elem HO_9.out z83 ((ji80) : Int) (of_decide_eq_true (by first | (with_reducible assumption) | assumption)) (by have h_ : ((ji80) : Int) < ((x9_2.length : Int) : Int) := of_decide_eq_true (by first | (with_reducible assumption) | assumption); first | exact h_ | (have e_ := (Kd.R_reads' HO_9.out).1; omega) | simpa using h_)
                                            obtain rfl := k83_openM hM91
                                            have HP91 := (Kd.R_seg HO_9.out ((ji80) : Int) (of_decide_eq_true (by first | (with_reducible assumption) | assumption)) (by have h_ : ((ji80) : Int) < ((x9_2.length : Int) : Int) := of_decide_eq_true (by first | (with_reducible assumption) | assumption); first | exact h_ | (have e_ := (Kd.R_reads' HO_9.out).1; omega) | simpa using h_) (seg := [.int .i64 (wrap64 (((rd_T83 x9_2 (ji80)).f2) + x16_46))]) (j := 5) hcl91 hcc91 (show 6 ≤ 6 from by decide) (x' := (⟨(rd_T83 x9_2 (ji80)).f0, (⟨(rd_T83 x9_2 (ji80)).f1.f0, (rd_T83 x9_2 (ji80)).f1.f1, (rd_T83 x9_2 (ji80)).f1.f2, (rd_T83 x9_2 (ji80)).f1.f3⟩ : S22), wrap64 (((rd_T83 x9_2 (ji80)).f2) + x16_46)⟩ : S83)) (k83_mkM _ _ _ (⟨(rd_T83 x9_2 (ji80)).f0, (⟨(rd_T83 x9_2 (ji80)).f1.f0, (rd_T83 x9_2 (ji80)).f1.f1, (rd_T83 x9_2 (ji80)).f1.f2, (rd_T83 x9_2 (ji80)).f1.f3⟩ : S22), wrap64 (((rd_T83 x9_2 (ji80)).f2) + x16_46)⟩ : S83) ) (fun _ hk => hk)).1
                                            rw [← Ny140.out] at HP91
                                            have HQ91 := Aside0.mk HP91
                                            clear hcl91 hcc91 hfr91 hM91 HP91
                                            refine start_ (n := 20) (S := fun w' => w'.cell? (ad127.add (t126).toNat) = some (.int .i64 (rd x10_2 t126)) ∧ w'.cell? (ad127.add (t126).toNat) = some (.int .i64 (rd x10_2 t126)) ∧ w'.cell? ⟨go83, ((ji80)).toNat * 6, none⟩ = some (.int .i64 ((rd_T83 x9_2 (ji80)).f0)) ∧ w'.cell? ⟨go83, ((ji80)).toNat * 6 + 1, none⟩ = some (.int .i64 ((rd_T83 x9_2 (ji80)).f1.f0)) ∧ w'.cell? ⟨go83, ((ji80)).toNat * 6 + 2, none⟩ = some (.int .i64 ((rd_T83 x9_2 (ji80)).f1.f1)) ∧ w'.cell? ⟨go83, ((ji80)).toNat * 6 + 3, none⟩ = some (.int .i64 ((rd_T83 x9_2 (ji80)).f1.f2)) ∧ w'.cell? ⟨go83, ((ji80)).toNat * 6 + 4, none⟩ = some (.int .i64 ((rd_T83 x9_2 (ji80)).f1.f3)) ∧ w'.cell? ⟨go83, ((ji80)).toNat * 6 + 5, none⟩ = some (.int .i64 ((rd_T83 x9_2 (ji80)).f2))) (ds := [19]) #[false, false, false, false, false, false, false, false, false, false, false, false, false, false, false, false, false, false, false, false] (by kernel_rfl) rfl rfl ⟨hx137_0, hx138_0, hx139_0, hx139_1, hx139_2, hx139_3, hx139_4, hx139_5⟩ (fun hHeld => ?_); refine with_tabW spec_l3Next.tab14 spec_l3Next.bits14 (fun HT_ HW_ => ?_)
                                            generalize w87.drew = w89 at HO_9 HO_10 BK106 BK121 HB GG83 HQ91 hf83_0 hf83_1 hf83_2 hf83_3 hf83_4 hf83_5 hx137_0 hx138_0 hx139_0 hx139_1 hx139_2 hx139_3 hx139_4 hx139_5 hx83_0 hx83_1 hx83_2 hx83_3 hx83_4 hx83_5 hHeld ⊢
                                            refine pure_ (i := 0) (N := some 83) (v := ?_) (a' := ?_) #[true, false, false, false, false, false, false, false, false, false, false, false, false, false, false, false, false, false, false, false] rfl rfl (any_of HT_.out (by kernel_rfl)) (fun _ _ _ h => h) (Or.inl ⟨by rfl, ?_⟩) ?_ ?_
                                            rotate_left
                                            · intro w'
                                              go_simp
                                              with_reducible rfl
                                            rotate_left
                                            · simp only [Act.put, List.setIfInBounds_toArray, List.set_cons_zero, List.set_cons_succ, i64_w, i32_w]
                                              rfl
                                            refine pure_ (i := 1) (N := some 84) (v := ?_) (a' := ?_) #[true, true, false, false, false, false, false, false, false, false, false, false, false, false, false, false, false, false, false, false] rfl rfl (any_of HT_.out (by kernel_rfl)) (fun _ _ _ h => h) (Or.inl ⟨by rfl, ?_⟩) ?_ ?_
                                            rotate_left
                                            · intro w'
                                              go_simp
                                              with_reducible rfl
                                            rotate_left
                                            · simp only [Act.put, List.setIfInBounds_toArray, List.set_cons_zero, List.set_cons_succ, i64_w, i32_w]
                                              rfl
                                            refine pure_ (i := 2) (N := some 85) (v := ?_) (a' := ?_) #[true, true, true, false, false, false, false, false, false, false, false, false, false, false, false, false, false, false, false, false] rfl rfl (any_of HT_.out (by kernel_rfl)) (fun _ _ _ h => h) (Or.inl ⟨by rfl, ?_⟩) ?_ ?_
                                            rotate_left
                                            · intro w'
                                              go_simp
                                              with_reducible rfl
                                            rotate_left
                                            · simp only [Act.put, List.setIfInBounds_toArray, List.set_cons_zero, List.set_cons_succ, i64_w, i32_w]
                                              rfl
                                            refine pure_ (i := 3) (N := some 86) (v := ?_) (a' := ?_) #[true, true, true, true, false, false, false, false, false, false, false, false, false, false, false, false, false, false, false, false] rfl rfl (any_of HT_.out (by kernel_rfl)) (fun _ _ _ h => h) (Or.inl ⟨by rfl, ?_⟩) ?_ ?_
                                            rotate_left
                                            · intro w'
                                              go_simp
                                              with_reducible rfl
                                            rotate_left
                                            · simp only [Act.put, List.setIfInBounds_toArray, List.set_cons_zero, List.set_cons_succ, i64_w, i32_w]
                                              rfl
                                            refine pure_ (i := 6) (N := some 89) (v := ?_) (a' := ?_) #[true, true, true, true, false, false, true, false, false, false, false, false, false, false, false, false, false, false, false, false] rfl rfl (any_of HT_.out (by kernel_rfl)) (fun _ _ _ h => h) (Or.inl ⟨by rfl, ?_⟩) ?_ ?_
                                            rotate_left
                                            · intro w'
                                              go_simp
                                              with_reducible rfl
                                            rotate_left
                                            · simp only [Act.put, List.setIfInBounds_toArray, List.set_cons_zero, List.set_cons_succ, i64_w, i32_w]
                                              rfl
                                            refine pure_ (i := 7) (N := some 90) (v := ?_) (a' := ?_) #[true, true, true, true, false, false, true, true, false, false, false, false, false, false, false, false, false, false, false, false] rfl rfl (any_of HT_.out (by kernel_rfl)) (fun _ _ _ h => h) (Or.inl ⟨by rfl, ?_⟩) ?_ ?_
                                            rotate_left
                                            · intro w'
                                              go_simp
                                              with_reducible rfl
                                            rotate_left
                                            · simp only [Act.put, List.setIfInBounds_toArray, List.set_cons_zero, List.set_cons_succ, i64_w, i32_w]
                                              rfl
                                            refine pure_ (i := 8) (N := some 91) (v := ?_) (a' := ?_) #[true, true, true, true, false, false, true, true, true, false, false, false, false, false, false, false, false, false, false, false] rfl rfl (any_of HT_.out (by kernel_rfl)) (fun _ _ _ h => h) (Or.inl ⟨by rfl, ?_⟩) ?_ ?_
                                            rotate_left
                                            · intro w'
                                              go_simp
                                              with_reducible rfl
                                            rotate_left
                                            · simp only [Act.put, List.setIfInBounds_toArray, List.set_cons_zero, List.set_cons_succ, i64_w, i32_w]
                                              rfl
                                            refine pure_ (i := 9) (N := some 92) (v := ?_) (a' := ?_) #[true, true, true, true, false, false, true, true, true, true, false, false, false, false, false, false, false, false, false, false] rfl rfl (any_of HT_.out (by kernel_rfl)) (fun _ _ _ h => h) (Or.inl ⟨by rfl, ?_⟩) ?_ ?_
                                            rotate_left
                                            · intro w'
                                              go_simp
                                              with_reducible rfl
                                            rotate_left
                                            · simp only [Act.put, List.setIfInBounds_toArray, List.set_cons_zero, List.set_cons_succ, i64_w, i32_w]
                                              rfl
                                            refine pure_ (i := 15) (N := some 98) (v := ?_) (a' := ?_) #[true, true, true, true, false, false, true, true, true, true, false, false, false, false, false, true, false, false, false, false] rfl rfl (any_of HT_.out (by kernel_rfl)) (fun _ _ _ h => h) (Or.inl ⟨by rfl, ?_⟩) ?_ ?_
                                            rotate_left
                                            · intro w'
                                              go_simp
                                              with_reducible rfl
                                            rotate_left
                                            · simp only [Act.put, List.setIfInBounds_toArray, List.set_cons_zero, List.set_cons_succ, i64_w, i32_w]
                                              rfl
                                            refine take_ (i := 4) (N := some 87) (v := ?_) (a' := ?_) #[true, true, true, true, true, false, true, true, true, true, false, false, false, false, false, true, false, false, false, false] rfl rfl (take_ofW HT_.out HW_.out (by kernel_rfl)) (fun _ _ _ h => h) (Or.inl ⟨by rfl, ?_⟩) hHeld ?_ ?_
                                            rotate_left
                                            · rintro w' ⟨s0, s1, s2, s3, s4, s5, s6, s7⟩
                                              go_simp
                                              with_reducible rfl
                                            rotate_left
                                            · simp only [Act.put, List.setIfInBounds_toArray, List.set_cons_zero, List.set_cons_succ, i64_w, i32_w]
                                              rfl
                                            refine pure_ (i := 5) (N := some 88) (v := ?_) (a' := ?_) #[true, true, true, true, true, true, true, true, true, true, false, false, false, false, false, true, false, false, false, false] rfl rfl (any_of HT_.out (by kernel_rfl)) (fun _ _ _ h => h) (Or.inl ⟨by rfl, ?_⟩) ?_ ?_
                                            rotate_left
                                            · intro w'
                                              go_simp
                                              with_reducible rfl
                                            rotate_left
                                            · simp only [Act.put, List.setIfInBounds_toArray, List.set_cons_zero, List.set_cons_succ, i64_w, i32_w]
                                              rfl
                                            refine take_ (i := 10) (N := some 93) (v := ?_) (a' := ?_) #[true, true, true, true, true, true, true, true, true, true, true, false, false, false, false, true, false, false, false, false] rfl rfl (take_ofW HT_.out HW_.out (by kernel_rfl)) (fun _ _ _ h => h) (Or.inl ⟨by rfl, ?_⟩) hHeld ?_ ?_
                                            rotate_left
                                            · rintro w' ⟨s0, s1, s2, s3, s4, s5, s6, s7⟩
                                              go_simp
                                              with_reducible rfl
                                            rotate_left
                                            · simp only [Act.put, List.setIfInBounds_toArray, List.set_cons_zero, List.set_cons_succ, i64_w, i32_w]
                                              rfl
                                            refine pure_ (i := 11) (N := some 94) (v := ?_) (a' := ?_) #[true, true, true, true, true, true, true, true, true, true, true, true, false, false, false, true, false, false, false, false] rfl rfl (any_of HT_.out (by kernel_rfl)) (fun _ _ _ h => h) (Or.inl ⟨by rfl, ?_⟩) ?_ ?_
                                            rotate_left
                                            · intro w'
                                              go_simp
                                              with_reducible rfl
                                            rotate_left
                                            · simp only [Act.put, List.setIfInBounds_toArray, List.set_cons_zero, List.set_cons_succ, i64_w, i32_w]
                                              rfl
                                            refine pure_ (i := 12) (N := some 95) (v := ?_) (a' := ?_) #[true, true, true, true, true, true, true, true, true, true, true, true, true, false, false, true, false, false, false, false] rfl rfl (any_of HT_.out (by kernel_rfl)) (fun _ _ _ h => h) (Or.inl ⟨by rfl, ?_⟩) ?_ ?_
                                            rotate_left
                                            · intro w'
                                              go_simp
                                              with_reducible rfl
                                            rotate_left
                                            · simp only [Act.put, List.setIfInBounds_toArray, List.set_cons_zero, List.set_cons_succ, i64_w, i32_w]
                                              rfl
                                            refine pure_ (i := 13) (N := some 96) (v := ?_) (a' := ?_) #[true, true, true, true, true, true, true, true, true, true, true, true, true, true, false, true, false, false, false, false] rfl rfl (any_of HT_.out (by kernel_rfl)) (fun _ _ _ h => h) (Or.inl ⟨by rfl, ?_⟩) ?_ ?_
                                            rotate_left
                                            · intro w'
                                              go_simp
                                              with_reducible rfl
                                            rotate_left
                                            · simp only [Act.put, List.setIfInBounds_toArray, List.set_cons_zero, List.set_cons_succ, i64_w, i32_w]
                                              rfl
                                            refine take_ (i := 14) (N := some 97) (v := ?_) (a' := ?_) #[true, true, true, true, true, true, true, true, true, true, true, true, true, true, true, true, false, false, false, false] rfl rfl (take_ofW HT_.out HW_.out (by kernel_rfl)) (fun _ _ _ h => h) (Or.inl ⟨by rfl, ?_⟩) hHeld ?_ ?_
                                            rotate_left
                                            · rintro w' ⟨s0, s1, s2, s3, s4, s5, s6, s7⟩
                                              go_simp
                                              with_reducible rfl
                                            rotate_left
                                            · simp only [Act.put, List.setIfInBounds_toArray, List.set_cons_zero, List.set_cons_succ, i64_w, i32_w]
                                              rfl
                                            refine pure_ (i := 16) (N := some 99) (v := ?_) (a' := ?_) #[true, true, true, true, true, true, true, true, true, true, true, true, true, true, true, true, true, false, false, false] rfl rfl (any_of HT_.out (by kernel_rfl)) (fun _ _ _ h => h) (Or.inl ⟨by rfl, ?_⟩) ?_ ?_
                                            rotate_left
                                            · intro w'
                                              go_simp
                                              with_reducible rfl
                                            rotate_left
                                            · simp only [Act.put, List.setIfInBounds_toArray, List.set_cons_zero, List.set_cons_succ, i64_w, i32_w]
                                              rfl
                                            refine pure_ (i := 17) (N := some 100) (v := ?_) (a' := ?_) #[true, true, true, true, true, true, true, true, true, true, true, true, true, true, true, true, true, true, false, false] rfl rfl (any_of HT_.out (by kernel_rfl)) (fun _ _ _ h => h) (Or.inl ⟨by rfl, ?_⟩) ?_ ?_
                                            rotate_left
                                            · intro w'
                                              go_simp
                                              with_reducible rfl
                                            rotate_left
                                            · simp only [Act.put, List.setIfInBounds_toArray, List.set_cons_zero, List.set_cons_succ, i64_w, i32_w]
                                              rfl
                                            refine pure_ (i := 18) (N := some 101) (v := ?_) (a' := ?_) #[true, true, true, true, true, true, true, true, true, true, true, true, true, true, true, true, true, true, true, false] rfl rfl (any_of HT_.out (by kernel_rfl)) (fun _ _ _ h => h) (Or.inl ⟨by rfl, ?_⟩) ?_ ?_
                                            rotate_left
                                            · intro w'
                                              go_simp
                                              with_reducible rfl
                                            rotate_left
                                            · simp only [Act.put, List.setIfInBounds_toArray, List.set_cons_zero, List.set_cons_succ, i64_w, i32_w]
                                              rfl
                                            refine last_ (i := 19) (N := none) #[true, true, true, true, true, true, true, true, true, true, true, true, true, true, true, true, true, true, true, true] rfl rfl (one_of HT_.out (by kernel_rfl)) (by decide) (fun K hK => ?_)
                                            refine skip_ (w1 := ?_) (by rfl) rfl ?_ ?_
                                            rotate_left
                                            · go_simp
                                              rfl
                                            refine hK.out _ _ ?_
                                            clear hK K
                                            refine done_ (done_of HT_.out (by kernel_rfl)) ?_
                                            try go_wp2
                                            go_roundg kj46
                                            case measure => have := HK1.out; have := HK2.out; have := HJ22.out; have := HJ46.out; omega
                                            case rel => exact ⟨(y140), (x10_2), (wrap64 (x12_2 + 1)), (by first | rfl | (simp; done) | (simp [*]; done)), H', ⟨by have := HK1.out; have := HK2.out; have := HJ22.out; have := HJ46.out; omega⟩, ⟨by (with_reducible repeat (first | apply Kd.R_alloc | apply Kd.R_drewN | apply Kd.R_drew)); exact HQ91.out⟩, ⟨by (with_reducible repeat (first | apply Kd.R_alloc | apply Kd.R_drewN | apply Kd.R_drew)); exact Kd.R_mono (Kd.R_far (p := ⟨go83, ((ji80) : Int).toNat * 6 + 5, none⟩) (Kd.R_types HO_10.out GG83.out (by decide)) (fun _ hk => hk.2) (.int .i64 (wrap64 (((rd_T83 x9_2 (ji80)).f2) + x16_46)))) (fun _ hk => trivial)⟩, ⟨by (with_reducible repeat (first | refine blk_drewN ?_ _ | refine blk_drew ?_ | refine blk_alloc ?_ _)); refine blk_far ?_ (by have h_ := Kd.R_ne HO_9.out BK106.out (by decide); intro e_; exact h_ (by rw [e_]; rfl)) _; (with_reducible repeat (first | refine blk_drewN ?_ _ | refine blk_drew ?_ | refine blk_alloc ?_ _)); exact BK106.out⟩, ⟨by repeat (first | (with_reducible first | exact HB.out | apply below_alloc | apply pw_below_drewN | apply below_drew1 | refine below_set ?_ GB83.out | refine below_set ?_ GE106.out | refine below_set ?_ GE121.out) | exact HB.out)⟩⟩
                                          · rw [if_neg c82] at H
                                            exact absurd H (by simp)
                                        · rw [if_neg c81] at H
                                          exact absurd H (by simp)
                                  · rw [if_neg c52] at H
                                    exact absurd H (by simp)
                                · rw [if_neg c51] at H
                                  exact absurd H (by simp)
                    · rw [if_neg c20] at H
                      exact absurd H (by simp)
                  · rw [if_neg c19] at H
                    exact absurd H (by simp)
                · rw [if_neg c18] at H
                  have c18b0 : decide (x12_2 < 16) = false := decide_eq_false c18
                  clear c18
                  have H' := Aside0.mk H
                  clear H
                  go_wp2
                  go_roundg k2
                  case measure => have := HK1.out; have := HK2.out; omega
                  case rel => exact ⟨(x9_2), (x10_2), (wrap64 (x11_1 + 1)), (by first | rfl | (simp; done) | (simp [*]; done)), H', ⟨by have := HK1.out; have := HK2.out; omega⟩, ⟨by (with_reducible repeat (first | apply Kd.R_alloc | apply Kd.R_drewN | apply Kd.R_drew)); exact HO_9.out⟩, ⟨by (with_reducible repeat (first | apply Kd.R_alloc | apply Kd.R_drewN | apply Kd.R_drew)); exact HO_10.out⟩, ⟨by (with_reducible repeat (first | refine blk_drewN ?_ _ | refine blk_drew ?_ | refine blk_alloc ?_ _)); exact BK106.out⟩, ⟨by repeat (first | (with_reducible first | exact HB.out | apply below_alloc | apply pw_below_drewN | apply below_drew1 | refine below_set ?_ GE106.out) | exact HB.out)⟩⟩
          · rw [if_neg c17] at H
            have c17b0 : decide (x11_1 < (l1.length : Int)) = false := decide_eq_false c17
            clear c17
            obtain rfl := Option.some.inj H
            go_wp2
            go_ret
            exact ⟨_, by first | rfl | (simp [errW_none, errW_some] <;> rfl) | (simp only [← hji6]; first | rfl | (simp [errW_none, errW_some] <;> rfl)) | (simp [*, errW_none, errW_some] <;> rfl), by (with_reducible repeat (first | apply Kd.R_alloc | apply Kd.R_drewN | apply Kd.R_drew)); exact HO_9.out, by repeat (first | (with_reducible first | exact HB.out | apply below_alloc | apply pw_below_drewN | apply below_drew1 | refine below_set ?_ GE106.out) | exact HB.out)⟩
    · rw [if_neg c8] at H
      exact absurd H (by simp)
  · rw [if_neg c7] at H
    exact absurd H (by simp)

end Go.Proofs.Ytlhodfjdmafapaa.QAll
