/- The plain law of SteadyTimes: both ways of steady turning give the same times. No statement of the seat is proved here. -/
import Derived.Test.YtekbfekghheejaaPInts
import Derived.Test.YtekbfekghheejaaExt
import Derived.Test.YtekbfekghheejaaQAll3
import Derived.Test.YtekbfekghheejaaQAll1
import Derived.Test.YtekbfekghheejaaQAll2
namespace Go.Proofs.Ytekbfekghheejaa
open Go.RowKit Go.Proofs.YtekbfekghheejaaW.PrintWords Go.Proofs.YtekbfekghheejaaW.PrintLast Go.Proofs.Ytekbfekghheejaa.QAll
set_option linter.unusedVariables false
set_option linter.unusedSimpArgs false
theorem v4_self (f : Nat → Int) (k : Nat → Int) : isSandB k (v4 (f 0) (f 1) (f 2) (f 3)) = isSandB k f := rfl
theorem sandB_of {k s : Nat → Int} (h : Sand k s) : isSandB k s = true := by
  simp only [isSandB, Bool.and_eq_true, inB_iff]
  exact ⟨⟨⟨⟨h.lo 0 (by omega), h.hi 0 (by omega)⟩, ⟨h.lo 1 (by omega), h.hi 1 (by omega)⟩⟩, ⟨h.lo 2 (by omega), h.hi 2 (by omega)⟩⟩, ⟨h.lo 3 (by omega), h.hi 3 (by omega)⟩⟩
theorem steady_eq (a b c d e f g h : Int) : impl_Kit_steady.f a b c d e f g h = xL4Steady.f a b c d e f g h := by
  unfold impl_Kit_steady.f xL4Steady.f xAll.f xRunning.f xStep.f
  simp only [Option.bind_some]
  by_cases q : (isKitB (v4 a b c d) && isSandB (v4 a b c d) (v4 e f g h)) = true
  · have s := steady_all (sand_of' q)
    simp only [if_pos q, Option.bind_some]
    rw [s]
  · simp only [if_neg q, Option.bind_none]
theorem times_eq : ∀ (k : Nat) (n : Int) (l : List Int) (a b c d e f g h : Int), spec_SteadyTimes.l0 k n l a b c d e f g h = impl_SteadyTimes.l0 k n l a b c d e f g h
  | 0, _, _, _, _, _, _, _, _, _, _ => by simp only [spec_SteadyTimes.l0, impl_SteadyTimes.l0]
  | k + 1, n, l, a, b, c, d, e, f, g, h => by
    simp only [spec_SteadyTimes.l0, impl_SteadyTimes.l0, steady_eq, times_eq k]
theorem times_some (K : Nat → Int) (hK : isKitB K = true) : ∀ (m k : Nat) (n : Int) (l : List Int) (e f g h : Int), (l.length : Int) + m = n → n ≤ 100 → 1 ≤ l.length → m < k → isSandB K (v4 e f g h) = true →
    ∃ l', impl_SteadyTimes.l0 k n l (K 0) (K 1) (K 2) (K 3) e f g h = some (l', true) ∧ l'.length ≤ 100
  | 0, k, n, l, e, f, g, h, hn, h1, hl, hk, hs => by
    obtain ⟨k, rfl⟩ : ∃ m, k = m + 1 := ⟨k - 1, by omega⟩
    refine ⟨l, ?_, by omega⟩
    simp only [impl_SteadyTimes.l0]
    rw [if_neg (by omega)]
  | m + 1, k, n, l, e, f, g, h, hn, h1, hl, hk, hs => by
    obtain ⟨k, rfl⟩ : ∃ m, k = m + 1 := ⟨k - 1, by omega⟩
    have q : (isKitB (v4 (K 0) (K 1) (K 2) (K 3)) && isSandB (v4 (K 0) (K 1) (K 2) (K 3)) (v4 e f g h)) = true := by
      rw [Bool.and_eq_true]; exact ⟨hK, hs⟩
    have q2 := sandB_of ((sand_of' q).step (steadySet (v4 (K 0) (K 1) (K 2) (K 3)) (v4 e f g h)))
    have W : wrap64 ((l.length : Int) - 1) = (l.length : Int) - 1 := wrap_in ⟨by omega, by omega⟩
    obtain ⟨l', e', h'⟩ := times_some K hK m k n (l ++ [wrap64 (rd l ((l.length : Int) - 1) + stepD (v4 (K 0) (K 1) (K 2) (K 3)) (v4 e f g h) (steadySet (v4 (K 0) (K 1) (K 2) (K 3)) (v4 e f g h)))]) _ _ _ _ (by simp; omega) h1 (by simp) (by omega) q2
    refine ⟨l', ?_, h'⟩
    simp only [impl_SteadyTimes.l0]
    rw [if_pos (by omega), steady_eq]
    unfold xL4Steady.f
    rw [if_pos q]
    simp only [Option.bind_some]
    rw [W, if_pos (by omega), if_pos (by omega), if_pos (by omega)]
    exact e'
theorem narrow_eq (a b c d e f g h : Int) : impl_isNarrow.f a b c d e f g h = some (isKitB (v4 a b c d) && isSandB (v4 a b c d) (v4 e f g h) && decide (prodOf (v4 a b c d) ≤ 3000)) := by
  unfold impl_isNarrow.f xAreSand.f xProduct.f
  simp only [Option.bind_some]
  cases isKitB (v4 a b c d) && isSandB (v4 a b c d) (v4 e f g h) <;> simp
theorem within_eq (a b c : Int) : impl_within.f a b c = some (inB b c a) := by
  unfold impl_within.f
  split
  · rw [inB_t (by omega)]
  · rw [inB_f (by omega)]
theorem in_eq (a b c : Int) : spec_l1In.f a b c = some (inB b c a) := by
  unfold spec_l1In.f
  split
  · rw [inB_t (by omega)]
  · rw [inB_f (by omega)]
/-- both end in the same list -/
theorem times_both (a b c d e f g h n : Int) : ∃ l ok, l.length ≤ 100 ∧ Ev (fun k => spec_SteadyTimes.f k a b c d e f g h n) (l, ok) ∧ Ev (fun k => impl_SteadyTimes.f k a b c d e f g h n) (l, ok) := by
  by_cases q : ((isKitB (v4 a b c d) && isSandB (v4 a b c d) (v4 e f g h) && decide (prodOf (v4 a b c d) ≤ 3000)) && inB 1 100 n) = true
  · have q' := q
    simp only [Bool.and_eq_true] at q
    obtain ⟨⟨⟨q1, q2⟩, q3⟩, q4⟩ := q
    have b4 := inB_iff.1 q4
    obtain ⟨l', e', h'⟩ := times_some (v4 a b c d) q1 (n.toNat - 1) 101 n [0] e f g h (by simp; omega) (by omega) (by simp) (by omega) q2
    have ev : Ev (fun k => impl_SteadyTimes.l0 k n [0] a b c d e f g h) (l', true) := Ev.of (fun k => (impl_SteadyTimes.mono_l k).2 _ _ _ _ _ _ _ _ _ _) e'
    refine ⟨l', true, h', ?_, ?_⟩
    · unfold spec_SteadyTimes.f xL4Narrow.f xL2Sand.f
      simp only [Option.bind_some, in_eq, q1, q2, q3, q4, Bool.and_true, if_true, Bool.not_true]
      refine Ev.step (f := fun k => impl_SteadyTimes.l0 k n [0] a b c d e f g h) (fun k => ?_) ev
      simp only [spec_SteadyTimes.j0, times_eq]
      rw [if_neg (by simp)]
    · unfold impl_SteadyTimes.f
      simp only [Option.bind_some, narrow_eq, within_eq, q1, q2, q3, q4, Bool.and_true, if_true, Bool.not_true]
      refine Ev.step (f := fun k => impl_SteadyTimes.l0 k n [0] a b c d e f g h) (fun k => ?_) ev
      simp only [impl_SteadyTimes.j0]
      rw [if_neg (by simp)]
  · refine ⟨[], false, by simp, ?_, ?_⟩
    · unfold spec_SteadyTimes.f xL4Narrow.f xL2Sand.f
      simp only [Option.bind_some, in_eq]
      have no : Ev (fun k => spec_SteadyTimes.j0 k n true a b c d e f g h) (([] : List Int), false) := Ev.step (f := fun _ => some ([], false)) (fun k => by simp [spec_SteadyTimes.j0]) (Ev.now _)
      cases q1 : isKitB (v4 a b c d) <;> cases q2 : isSandB (v4 a b c d) (v4 e f g h) <;> cases q3 : decide (prodOf (v4 a b c d) ≤ 3000) <;> cases q4 : inB 1 100 n
      all_goals first
        | (simp only [q1, q2, q3, q4, Bool.and_true, Bool.and_false, Bool.false_and, Bool.true_and, Bool.not_false, if_true]; (try simp only [Bool.false_eq_true, if_false, reduceCtorEq]); exact no)
        | (exact absurd (by simp only [q1, q2, q3, q4, Bool.and_true]) q)
    · unfold impl_SteadyTimes.f
      simp only [Option.bind_some, narrow_eq, within_eq]
      have no : Ev (fun k => impl_SteadyTimes.j0 k n true a b c d e f g h) (([] : List Int), false) := Ev.step (f := fun _ => some ([], false)) (fun k => by simp [impl_SteadyTimes.j0]) (Ev.now _)
      cases q1 : isKitB (v4 a b c d) <;> cases q2 : isSandB (v4 a b c d) (v4 e f g h) <;> cases q3 : decide (prodOf (v4 a b c d) ≤ 3000) <;> cases q4 : inB 1 100 n
      all_goals first
        | (simp only [q1, q2, q3, q4, Bool.and_true, Bool.and_false, Bool.false_and, Bool.true_and, Bool.not_false, if_true]; (try simp only [Bool.false_eq_true, if_false, reduceCtorEq]); exact no)
        | (exact absurd (by simp only [q1, q2, q3, q4, Bool.and_true]) q)
theorem steadyTimes_law (a b c d e f g h n : Int) : ∃ k, laws_FnExactSteadyTimes.f k a b c d e f g h n = some true := by
  obtain ⟨l, ok, hl, h1, h2⟩ := times_both a b c d e f g h n
  obtain ⟨l', hl', m1, m2⟩ := markInts l (by omega)
  have same := eqInts_same l (by omega)
  apply Ev.rounds
  unfold laws_FnExactSteadyTimes.f xToKit.f xToIntA4.f
  simp only [Option.bind_some]
  refine Ev.bind h1 ?_
  refine Ev.bind h2 ?_
  refine Ev.bind same ?_
  simp only [if_true, bne_self_eq_false]
  refine Ev.step (f := fun k => _) (fun k => by simp only [laws_FnExactSteadyTimes.j0]; rfl) ?_
  simp only [Bool.false_eq_true, if_false]
  refine Ev.bind m1 ?_
  refine Ev.bind m2 ?_
  refine ev_neg (by omega) ?_
  refine ev_pos rfl ?_
  unfold xToKit.f xToIntA4.f
  simp only [Option.bind_some]
  refine Ev.bind h2 ?_
  refine Ev.bind same ?_
  simp only [if_true, bne_self_eq_false]
  refine Ev.step (f := fun k => _) (fun k => by simp only [laws_FnExactSteadyTimes.j1]; rfl) ?_
  simp only [Bool.false_eq_true, if_false]
  refine Ev.bind m2 ?_
  refine ev_neg (by omega) ?_
  exact ev_pos rfl (Ev.now _)
end Go.Proofs.Ytekbfekghheejaa
