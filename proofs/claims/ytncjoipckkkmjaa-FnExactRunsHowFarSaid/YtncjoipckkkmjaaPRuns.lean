/- The plain law of RunsHowFar. No statement of the seat is proved here. -/
import Derived.Test.YtncjoipckkkmjaaPPlans
import Derived.Test.YtncjoipckkkmjaaQAll4
namespace Go.Proofs.Ytncjoipckkkmjaa
open Go.RowKit Go.Proofs.YtncjoipckkkmjaaW.PrintWords Go.Proofs.YtncjoipckkkmjaaW.PrintLast Go.Proofs.Ytncjoipckkkmjaa.QAll
set_option linter.unusedVariables false
set_option linter.unusedSimpArgs false
theorem runs_both (a b c d e f g h : Int) (l : List Int) (hl : l.length ≤ 1048576) : ∃ n ok, Ev (fun k => spec_RunsHowFar.f k a b c d e f g h l) (n, ok) ∧ Ev (fun _ => impl_RunsHowFar.f a b c d e f g h l) (n, ok) := by
  cases q1 : isKitB (v4 a b c d)
  · refine ⟨0, false, ?_, ?_⟩
    · unfold spec_RunsHowFar.f xL2Sand.f
      simp only [Option.bind_some, q1, Bool.and_false, Bool.false_eq_true, if_false]
      exact Ev.now _
    · unfold impl_RunsHowFar.f xAreSand.f
      simp only [Option.bind_some, q1, Bool.false_and, Bool.false_eq_true, if_false]
      exact Ev.now _
  cases q2 : isSandB (v4 a b c d) (v4 e f g h)
  · refine ⟨0, false, ?_, ?_⟩
    · unfold spec_RunsHowFar.f xL2Sand.f
      simp only [Option.bind_some, q1, q2, Bool.and_true, Bool.false_eq_true, if_false]
      exact Ev.now _
    · unfold impl_RunsHowFar.f xAreSand.f
      simp only [Option.bind_some, q1, q2, Bool.true_and, Bool.false_eq_true, if_false]
      exact Ev.now _
  have P := plan_same a b c d l hl
  cases q3 : isPlanB (v4 a b c d) l
  · rw [q3] at P
    refine ⟨0, false, ?_, ?_⟩
    · unfold spec_RunsHowFar.f xL2Sand.f
      simp only [Option.bind_some, q1, q2, Bool.and_true, if_true]
      refine Ev.bind P ?_
      exact Ev.now _
    · unfold impl_RunsHowFar.f xAreSand.f xIsPlan.f
      simp only [Option.bind_some, q1, q2, q3, Bool.true_and, Bool.false_eq_true, if_true, if_false]
      exact Ev.now _
  · rw [q3] at P
    have h12 : l.length ≤ 12 := by
      simp only [isPlanB, Bool.and_eq_true, decide_eq_true_eq] at q3; exact q3.1
    refine ⟨wrap64 (((runGo (v4 a b c d) l [0] (v4 e f g h)).1.length : Int) - 1), true, ?_, ?_⟩
    · unfold spec_RunsHowFar.f xL2Sand.f
      simp only [Option.bind_some, q1, q2, Bool.and_true, if_true]
      refine Ev.bind P ?_
      refine ev_pos rfl ?_
      refine Ev.bind (moments_same a b c d e f g h l h12 q1 q2) ?_
      exact Ev.now _
    · unfold impl_RunsHowFar.f xAreSand.f xIsPlan.f
      simp only [Option.bind_some, q1, q2, q3, Bool.true_and, if_true]
      rw [run_same a b c d e f g h l h12 q1 q2]
      exact Ev.now _
theorem runsHowFar_law (a b c d e f g h : Int) (l : List Int) : ∃ k, laws_FnExactRunsHowFar.f k a b c d e f g h l = some true := by
  apply Ev.rounds
  unfold laws_FnExactRunsHowFar.f
  by_cases q : (l.length : Int) > 1048576
  · exact ev_pos q (Ev.now _)
  · refine ev_neg q ?_
    obtain ⟨n, ok, h1, h2⟩ := runs_both a b c d e f g h l (by omega)
    have ti := toI l (by omega)
    unfold xToKit.f xToIntA4.f
    simp only [Option.bind_some]
    refine Ev.bind ti ?_
    refine Ev.bind h1 ?_
    refine Ev.bind ti ?_
    refine Ev.bind h2 ?_
    refine ev_pos rfl ?_
    simp only [bne_self_eq_false]
    refine Ev.step (f := fun k => _) (fun k => by simp only [laws_FnExactRunsHowFar.j0]; rfl) ?_
    simp only [Bool.false_eq_true, if_false]
    refine Ev.bind ti ?_
    refine Ev.bind (eqI_same l (by omega)) ?_
    exact ev_pos rfl (Ev.now _)
end Go.Proofs.Ytncjoipckkkmjaa
