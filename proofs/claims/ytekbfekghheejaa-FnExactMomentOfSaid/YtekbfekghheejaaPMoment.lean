/- The plain law of MomentOf. No statement of the seat is proved here. -/
import Derived.Test.YtekbfekghheejaaPRunPlan
import Derived.Test.YtekbfekghheejaaQAll5
import Derived.Test.YtekbfekghheejaaQAll3
import Derived.Test.YtekbfekghheejaaQAll4
namespace Go.Proofs.Ytekbfekghheejaa
open Go.RowKit Go.Proofs.YtekbfekghheejaaW.PrintWords Go.Proofs.YtekbfekghheejaaW.PrintLast Go.Proofs.Ytekbfekghheejaa.QAll
set_option linter.unusedVariables false
set_option linter.unusedSimpArgs false
def firstAt (x : Int) : List Int → Nat → Option Nat
  | [], _ => none
  | y :: r, i => if y = x then some i else firstAt x r (i + 1)
theorem drop_getD' (l : List Int) (i : Nat) (h : i < l.length) : l.drop i = l.getD i 0 :: l.drop (i + 1) := by
  rw [List.drop_eq_getElem_cons h]; simp [List.getD_eq_getElem?_getD, List.getElem?_eq_getElem h]
theorem first_spec (x : Int) (T : List Int) (hT : T.length ≤ 1000) : ∀ (n k i : Nat), i + n = T.length → 2 * n + 2 ≤ k → spec_MomentOf.l0 k x T true (i : Int) = some ((((firstAt x (T.drop i) i).getD 0 : Nat) : Int), (firstAt x (T.drop i) i).isSome)
  | 0, k, i, hi, hk => by
    obtain ⟨k, rfl⟩ : ∃ m, k = m + 1 + 1 := ⟨k - 2, by omega⟩
    simp only [spec_MomentOf.l0, if_true]
    rw [show decide ((i : Int) < (T.length : Int)) = false from decide_eq_false (by omega), List.drop_eq_nil_of_le (by omega)]
    simp [spec_MomentOf.j1, firstAt]
  | n + 1, k, i, hi, hk => by
    obtain ⟨k, rfl⟩ : ∃ m, k = m + 1 + 1 := ⟨k - 2, by omega⟩
    simp only [spec_MomentOf.l0, if_true]
    rw [show decide ((i : Int) < (T.length : Int)) = true from decide_eq_true (by omega), drop_getD' T i (by omega)]
    simp only [spec_MomentOf.j1, if_true]
    rw [if_pos (by omega), if_pos (by omega), show rd T (i : Int) = T.getD i 0 by simp [rd], firstAt]
    by_cases q : T.getD i 0 = x
    · rw [if_pos q, if_pos q]; rfl
    · rw [if_neg q, if_neg q, wrapN (n := T.length) (by omega) (by omega)]
      exact first_spec x T hT n k (i + 1) (by omega) (by omega)
theorem first_impl (x : Int) (T : List Int) (hT : T.length ≤ 1000) : ∀ (n k i : Nat), i + n = T.length → n < k → slices_Index_int_int.l0 k T x (T.length : Int) (i : Int) = some (match firstAt x (T.drop i) i with | some m => (m : Int) | none => -1)
  | 0, k, i, hi, hk => by
    obtain ⟨k, rfl⟩ : ∃ m, k = m + 1 := ⟨k - 1, by omega⟩
    simp only [slices_Index_int_int.l0]
    rw [if_neg (by omega), List.drop_eq_nil_of_le (by omega)]
    simp [firstAt]
  | n + 1, k, i, hi, hk => by
    obtain ⟨k, rfl⟩ : ∃ m, k = m + 1 := ⟨k - 1, by omega⟩
    simp only [slices_Index_int_int.l0]
    rw [if_pos (by omega), if_pos (by omega), if_pos (by omega), drop_getD' T i (by omega), show rd T (i : Int) = T.getD i 0 by simp [rd], firstAt]
    by_cases q : T.getD i 0 = x
    · rw [if_pos q.symm, if_pos q]
    · rw [if_neg (fun h => q h.symm), if_neg q, wrapN (n := T.length) (by omega) (by omega)]
      exact first_impl x T hT n k (i + 1) (by omega) (by omega)
theorem moment_both (a b c d e f g h : Int) (l : List Int) (t : Int) (hl : l.length ≤ 1048576) : ∃ n ok, Ev (fun k => spec_MomentOf.f k a b c d e f g h l t) (n, ok) ∧ Ev (fun k => impl_MomentOf.f k a b c d e f g h l t) (n, ok) := by
  obtain ⟨T, x, y, z, u, ok, h1, h2, h3⟩ := runPlan_both a b c d e f g h l hl
  have hI : Ev (fun k => slices_Index_int_int.f k T t) (match firstAt t (T.drop 0) 0 with | some m => (m : Int) | none => -1) := ev_at (T.length + 1) fun k hk => by
    unfold slices_Index_int_int.f
    exact first_impl t T (by omega) T.length k 0 (by omega) (by omega)
  cases ok
  · refine ⟨0, false, ?_, ?_⟩
    · unfold spec_MomentOf.f
      refine Ev.bind h1 (Ev.step (f := fun k => spec_MomentOf.j1 k t T false 0 false) (fun k => by simp [spec_MomentOf.l0]) ?_)
      exact Ev.step (f := fun _ => some (0, false)) (fun k => by simp [spec_MomentOf.j1]) (Ev.now _)
    · unfold impl_MomentOf.f
      refine Ev.bind h2 (Ev.bind hI ?_)
      exact ev_neg (by simp) (Ev.now _)
  · have hS : Ev (fun k => spec_MomentOf.l0 k t T true 0) ((((firstAt t (T.drop 0) 0).getD 0 : Nat) : Int), (firstAt t (T.drop 0) 0).isSome) := ev_at (2 * T.length + 2) fun k hk =>
      first_spec t T (by omega) T.length k 0 (by omega) (by omega)
    refine ⟨(((firstAt t (T.drop 0) 0).getD 0 : Nat) : Int), (firstAt t (T.drop 0) 0).isSome, ?_, ?_⟩
    · unfold spec_MomentOf.f
      exact Ev.bind h1 hS
    · unfold impl_MomentOf.f
      refine Ev.bind h2 (Ev.bind hI ?_)
      refine ev_pos rfl ?_
      cases firstAt t (T.drop 0) 0 with
      | none => exact ev_pos (by simp) (Ev.now _)
      | some m => exact ev_neg (by simp only [Int.not_lt]; omega) (Ev.now _)
theorem momentOf_law (a b c d e f g h : Int) (l : List Int) (t : Int) : ∃ k, laws_FnExactMomentOf.f k a b c d e f g h l t = some true := by
  apply Ev.rounds
  unfold laws_FnExactMomentOf.f
  by_cases q : (l.length : Int) > 1048576
  · exact ev_pos q (Ev.now _)
  · refine ev_neg q ?_
    obtain ⟨n, ok, h1, h2⟩ := moment_both a b c d e f g h l t (by omega)
    have ti := toI l (by omega)
    unfold xToKit.f xToIntA4.f
    simp only [Option.bind_some]
    refine Ev.bind ti ?_
    refine Ev.bind h1 ?_
    refine Ev.bind ti ?_
    refine Ev.bind h2 ?_
    refine ev_pos rfl ?_
    simp only [bne_self_eq_false]
    refine Ev.step (f := fun k => _) (fun k => by simp only [laws_FnExactMomentOf.j0]; rfl) ?_
    simp only [Bool.false_eq_true, if_false]
    refine Ev.bind ti ?_
    refine Ev.bind (eqI_same l (by omega)) ?_
    exact ev_pos rfl (Ev.now _)
end Go.Proofs.Ytekbfekghheejaa
