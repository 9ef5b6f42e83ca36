/- The plain laws of TurnsOf and RunsHowFar. No statement of the seat is proved here. -/
import Derived.Test.YtncjoipckkkmjaaPPlans
import Derived.Test.YtncjoipckkkmjaaQAll2
import Derived.Test.YtncjoipckkkmjaaQAll1
namespace Go.Proofs.Ytncjoipckkkmjaa
open Go.RowKit Go.Proofs.YtncjoipckkkmjaaW.PrintWords Go.Proofs.YtncjoipckkkmjaaW.PrintLast Go.Proofs.Ytncjoipckkkmjaa.QAll
set_option linter.unusedVariables false
set_option linter.unusedSimpArgs false
theorem bits_fin : ∀ n : Fin 16, spec_l3Bits.f 6 ((n.val : Nat) : Int) = some (onesN n.val) := by decide +kernel
theorem bits_small {x : Int} (h : 0 ≤ x ∧ x ≤ 15) (k : Nat) (hk : 6 ≤ k) : spec_l3Bits.f k x = some (onesN x.toNat) := by
  obtain ⟨n, rfl⟩ := Int.eq_ofNat_of_zero_le h.1
  exact at_rounds (fun k => spec_l3Bits.mono _ k) hk (bits_fin ⟨n, by omega⟩)
theorem ones_small {x : Int} (h : 0 ≤ x ∧ x ≤ 15) : xOnes.f (IntKind.u64.wrap x) = some (onesN x.toNat) := by
  have e : IntKind.u64.wrap x = x := by simp [IntKind.wrap, IntKind.bits, IntKind.signed]; omega
  rw [e]; unfold xOnes.f; rw [if_pos h]
def tsum : List Int → Int → Int
  | [], c => c
  | x :: r, c => tsum r (wrap64 (c + onesN x.toNat))
theorem drop_getD (l : List Int) (i : Nat) (h : i < l.length) : l.drop i = l.getD i 0 :: l.drop (i + 1) := by
  rw [List.drop_eq_getElem_cons h]; simp [List.getD_eq_getElem?_getD, List.getElem?_eq_getElem h]
theorem turns_impl (l : List Int) (hl : l.length ≤ 12) (h : ∀ j, j < l.length → 0 ≤ l.getD j 0 ∧ l.getD j 0 ≤ 15) : ∀ (n k i : Nat) (c : Int), i + n = l.length → n < k → impl_turnsOf.l0 k c l (l.length : Int) (i : Int) = some (tsum (l.drop i) c)
  | 0, k, i, c, hi, hk => by
    obtain ⟨k, rfl⟩ : ∃ m, k = m + 1 := ⟨k - 1, by omega⟩
    simp only [impl_turnsOf.l0]
    rw [if_neg (by omega), List.drop_eq_nil_of_le (by omega)]; rfl
  | n + 1, k, i, c, hi, hk => by
    obtain ⟨k, rfl⟩ : ∃ m, k = m + 1 := ⟨k - 1, by omega⟩
    simp only [impl_turnsOf.l0]
    rw [if_pos (by omega), if_pos (by omega), if_pos (by omega), rd_nat, ones_small (h i (by omega)), drop_getD l i (by omega)]
    simp only [Option.bind_some, tsum]
    rw [wrapN (n := l.length) (by omega) (by omega)]
    exact turns_impl l hl h n k (i + 1) _ (by omega) (by omega)
theorem turns_spec (l : List Int) (hl : l.length ≤ 12) (h : ∀ j, j < l.length → 0 ≤ l.getD j 0 ∧ l.getD j 0 ≤ 15) : ∀ (n k i : Nat) (c : Int), i + n = l.length → n + 6 < k → spec_TurnsOf.l0 k l c (i : Int) = some (tsum (l.drop i) c, true)
  | 0, k, i, c, hi, hk => by
    obtain ⟨k, rfl⟩ : ∃ m, k = m + 1 := ⟨k - 1, by omega⟩
    simp only [spec_TurnsOf.l0]
    rw [if_neg (by omega), List.drop_eq_nil_of_le (by omega)]; rfl
  | n + 1, k, i, c, hi, hk => by
    obtain ⟨k, rfl⟩ : ∃ m, k = m + 1 := ⟨k - 1, by omega⟩
    simp only [spec_TurnsOf.l0]
    rw [if_pos (by omega), if_pos (by omega), rd_nat, bits_small (h i (by omega)) k (by omega), drop_getD l i (by omega)]
    simp only [Option.bind_some, tsum]
    rw [wrapN (n := l.length) (by omega) (by omega)]
    exact turns_spec l hl h n k (i + 1) _ (by omega) (by omega)
theorem plan_sets {K : Nat → Int} {l : List Int} (h : isPlanB K l = true) : l.length ≤ 12 ∧ ∀ j, j < l.length → 0 ≤ l.getD j 0 ∧ l.getD j 0 ≤ 15 := by
  simp only [isPlanB, Bool.and_eq_true, decide_eq_true_eq, List.all_eq_true] at h
  refine ⟨h.1, fun j hj => ?_⟩
  have := h.2 (l.getD j 0) (by rw [List.getD_eq_getElem?_getD, List.getElem?_eq_getElem hj]; simp)
  simp only [isSetB, Bool.and_eq_true, inB_iff] at this
  exact this.1
theorem turns_both (a b c d : Int) (l : List Int) (hl : l.length ≤ 1048576) : ∃ n ok, Ev (fun k => spec_TurnsOf.f k a b c d l) (n, ok) ∧ Ev (fun k => impl_TurnsOf.f k a b c d l) (n, ok) := by
  have no : Ev (fun k => spec_TurnsOf.j0 k l true) ((0 : Int), false) := Ev.step (f := fun _ => some (0, false)) (fun k => by simp [spec_TurnsOf.j0]) (Ev.now _)
  cases q1 : isKitB (v4 a b c d)
  · refine ⟨0, false, ?_, ?_⟩
    · unfold spec_TurnsOf.f xL2Kit.f
      simp only [Option.bind_some, q1, Bool.false_eq_true, if_false]
      exact no
    · unfold impl_TurnsOf.f xIsKit.f
      simp only [Option.bind_some, q1, Bool.false_eq_true, if_false]
      exact Ev.now _
  · cases q2 : isPlanB (v4 a b c d) l
    · refine ⟨0, false, ?_, ?_⟩
      · unfold spec_TurnsOf.f xL2Kit.f
        simp only [Option.bind_some, q1, if_true]
        have := plan_same a b c d l hl
        rw [q2] at this
        exact Ev.bind this no
      · unfold impl_TurnsOf.f xIsKit.f xIsPlan.f
        simp only [Option.bind_some, q1, q2, if_true, Bool.false_eq_true, if_false]
        exact Ev.now _
    · obtain ⟨h12, hs⟩ := plan_sets q2
      refine ⟨tsum l 0, true, ?_, ?_⟩
      · unfold spec_TurnsOf.f xL2Kit.f
        simp only [Option.bind_some, q1, if_true]
        have := plan_same a b c d l hl
        rw [q2] at this
        refine Ev.bind this ?_
        refine Ev.step (f := fun k => spec_TurnsOf.l0 k l 0 0) (fun k => by simp [spec_TurnsOf.j0]) (ev_at (l.length + 7) fun k hk => ?_)
        exact turns_spec l h12 hs l.length k 0 0 (by omega) (by omega)
      · unfold impl_TurnsOf.f xIsKit.f xIsPlan.f
        simp only [Option.bind_some, q1, q2, if_true]
        refine Ev.bind (a := tsum l 0) (ev_at (l.length + 1) fun k hk => ?_) (Ev.now _)
        unfold impl_turnsOf.f
        exact turns_impl l h12 hs l.length k 0 0 (by omega) (by omega)
theorem turnsOf_law (a b c d : Int) (l : List Int) : ∃ k, laws_FnExactTurnsOf.f k a b c d l = some true := by
  apply Ev.rounds
  unfold laws_FnExactTurnsOf.f
  by_cases q : (l.length : Int) > 1048576
  · exact ev_pos q (Ev.now _)
  · refine ev_neg q ?_
    obtain ⟨n, ok, h1, h2⟩ := turns_both a b c d l (by omega)
    have ti := toI l (by omega)
    unfold xToKit.f
    simp only [Option.bind_some]
    refine Ev.bind ti ?_
    refine Ev.bind h1 ?_
    refine Ev.bind ti ?_
    refine Ev.bind h2 ?_
    refine ev_pos rfl ?_
    simp only [bne_self_eq_false]
    refine Ev.step (f := fun k => _) (fun k => by simp only [laws_FnExactTurnsOf.j0]; rfl) ?_
    simp only [Bool.false_eq_true, if_false]
    refine Ev.bind ti ?_
    refine Ev.bind (eqI_same l (by omega)) ?_
    exact ev_pos rfl (Ev.now _)
end Go.Proofs.Ytncjoipckkkmjaa
