/- Contract: all steps from a sand, by numbers. No statement of the seat is proved here. -/
import Derived.Test.YtlhodfjdmafapaaPEarl
import Derived.Test.YtlhodfjdmafapaaWLast
import Derived.Test.YtlhodfjdmafapaaQNx1
namespace Go.Proofs.Ytlhodfjdmafapaa
open Go.RowKit Go.Proofs.YtlhodfjdmafapaaW.PrintWords Go.Proofs.YtlhodfjdmafapaaW.PrintLast Go.Proofs.Ytlhodfjdmafapaa.QNx
set_option linter.unusedVariables false
set_option linter.unusedSimpArgs false
theorem sandB_of {k s : Nat → Int} (h : Sand k s) : isSandB k s = true := by
  simp only [isSandB, Bool.and_eq_true, inB_iff]
  exact ⟨⟨⟨⟨h.lo 0 (by omega), h.hi 0 (by omega)⟩, ⟨h.lo 1 (by omega), h.hi 1 (by omega)⟩⟩, ⟨h.lo 2 (by omega), h.hi 2 (by omega)⟩⟩, ⟨h.lo 3 (by omega), h.hi 3 (by omega)⟩⟩
def toS (p : Int × Int) : S98 := ⟨p.1, p.2⟩
/-- the steps from a sand, for some of the sets -/
def stepsL (k : Nat → Int) (x : Sd) (l : List Int) : List (Int × Int) := (l.filter fun set => decide (0 < goD k x set)).map fun set => (idn k (goS k x set), goD k x set)
theorem steps_l0 (a b c d : Int) (hk : isKitB (v4 a b c d) = true) (x0 x1 x2 x3 : Int) (hx : Sand (v4 a b c d) (fn4 (x0, x1, x2, x3))) : ∀ (m i : Nat) (acc : List S98), i + m = 16 → acc.length ≤ i → spec_l4Next.l0 (m + 1) acc (i : Int) a b c d x0 x1 x2 x3 = some (acc ++ (stepsL (v4 a b c d) (x0, x1, x2, x3) (((List.range' i m).map fun (j : Nat) => (j : Int)).filter (isSetB (v4 a b c d)))).map toS)
  | 0, i, acc, h, ha => by
    simp only [spec_l4Next.l0]
    rw [if_neg (by omega)]
    simp [stepsL]
  | m + 1, i, acc, h, ha => by
    have hs : xL2Set.f a b c d (i : Int) = some (isSetB (v4 a b c d) (i : Int)) := rfl
    have hw : wrap64 ((i : Int) + 1) = ((i + 1 : Nat) : Int) := by unfold wrap64; omega
    rw [spec_l4Next.l0, if_pos (by omega), hs, Option.bind_some]
    cases hb : isSetB (v4 a b c d) (i : Int)
    · rw [if_neg (by simp), hw, steps_l0 a b c d hk x0 x1 x2 x3 hx m (i + 1) acc (by omega) (by omega)]
      simp [List.range'_succ, hb]
    · rw [if_pos rfl]
      have ht : xL2Step.f a b c d x0 x1 x2 x3 (i : Int) = some ((stepS (v4 a b c d) (fn4 (x0, x1, x2, x3)) i) 0, (stepS (v4 a b c d) (fn4 (x0, x1, x2, x3)) i) 1, (stepS (v4 a b c d) (fn4 (x0, x1, x2, x3)) i) 2, (stepS (v4 a b c d) (fn4 (x0, x1, x2, x3)) i) 3, stepD (v4 a b c d) (fn4 (x0, x1, x2, x3)) i) := by
        unfold xL2Step.f
        have : (isKitB (v4 a b c d) && isSandB (v4 a b c d) (v4 x0 x1 x2 x3)) = true := by rw [hk, show isSandB (v4 a b c d) (v4 x0 x1 x2 x3) = true from sandB_of hx]; rfl
        rw [if_pos this]
        rfl
      rw [ht, Option.bind_some]
      simp only []
      have hd : stepD (v4 a b c d) (fn4 (x0, x1, x2, x3)) i = goD (v4 a b c d) (x0, x1, x2, x3) i := rfl
      rw [hd]
      by_cases q : 0 < goD (v4 a b c d) (x0, x1, x2, x3) i
      · rw [if_pos q]
        have hi : xL4Id.f a b c d (stepS (v4 a b c d) (fn4 (x0, x1, x2, x3)) i 0) (stepS (v4 a b c d) (fn4 (x0, x1, x2, x3)) i 1) (stepS (v4 a b c d) (fn4 (x0, x1, x2, x3)) i 2) (stepS (v4 a b c d) (fn4 (x0, x1, x2, x3)) i 3) = some (idn (v4 a b c d) (goS (v4 a b c d) (x0, x1, x2, x3) i)) := rfl
        rw [hi, Option.bind_some, if_pos (by omega), hw, steps_l0 a b c d hk x0 x1 x2 x3 hx m (i + 1) _ (by omega) (by simp; omega)]
        simp [List.range'_succ, hb, stepsL, q, toS]
      · rw [if_neg q, hw, steps_l0 a b c d hk x0 x1 x2 x3 hx m (i + 1) acc (by omega) (by omega)]
        simp [List.range'_succ, hb, stepsL, q]
theorem steps_all (k : Nat → Int) (id : Int) : stepsL k (sandX k id) (setsL k) = nextL k id := rfl
theorem steps_any (a b c d : Int) (hk : isKitB (v4 a b c d) = true) (id : Int) (h0 : 0 ≤ id) (w : World) : Calls Try.prog 78 #[A4 (v4 a b c d), A4 (sandAt (v4 a b c d) id)] w fun e w' => ∃ v0 : Value, e = .returned v0 ∧ Kd.R k98 98 w' w.heap.size (fun _ => True) v0 ((nextL (v4 a b c d) id).map toS) ∧ Below w.heap.size w w' := by
  have hx := sandX_sand (kit_bounds hk) (id := id) h0
  have := steps_l0 a b c d hk _ _ _ _ hx 16 0 [] (by omega) (by simp)
  refine spec_l4Next.calls 17 a b c d _ _ _ _ ((nextL (v4 a b c d) id).map toS) w ?_
  unfold spec_l4Next.f
  rw [show (0 : Int) = ((0 : Nat) : Int) from rfl, this, List.nil_append]
  rfl
theorem nextL_v4 (k : Nat → Int) (id : Int) : nextL (v4 (k 0) (k 1) (k 2) (k 3)) id = nextL k id := rfl
theorem steps_c (k : Nat → Int) (hk : isKitB k = true) (id : Int) (h0 : 0 ≤ id) (w : World) : Calls Try.prog 78 #[A4 k, A4 (sandAt k id)] w fun e w' => ∃ v0 : Value, e = .returned v0 ∧ Kd.R k98 98 w' w.heap.size (fun _ => True) v0 ((nextL k id).map toS) ∧ Below w.heap.size w w' := by
  have := steps_any (k 0) (k 1) (k 2) (k 3) (show isKitB (v4 (k 0) (k 1) (k 2) (k 3)) = true from hk) id h0 w
  rw [nextL_v4] at this
  exact this
end Go.Proofs.Ytlhodfjdmafapaa
