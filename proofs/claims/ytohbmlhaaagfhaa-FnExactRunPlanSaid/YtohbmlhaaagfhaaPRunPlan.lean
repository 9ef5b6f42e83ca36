/- The plain law of RunPlan. No statement of the seat is proved here. -/
import Derived.Test.YtohbmlhaaagfhaaPPlans
import Derived.Test.YtohbmlhaaagfhaaQAll3
namespace Go.Proofs.Ytohbmlhaaagfhaa
open Go.RowKit Go.Proofs.YtohbmlhaaagfhaaW.PrintWords Go.Proofs.YtohbmlhaaagfhaaW.PrintLast Go.Proofs.Ytohbmlhaaagfhaa.QAll
set_option linter.unusedVariables false
set_option linter.unusedSimpArgs false
theorem runPlan_no_spec (l : List Int) (a b c d e f g h : Int) : Ev (fun k => spec_RunPlan.j0 k l true a b c d e f g h) (([] : List Int), 0, 0, 0, 0, false) :=
  Ev.step (f := fun _ => some (([] : List Int), 0, 0, 0, 0, false)) (fun k => by simp [spec_RunPlan.j0]) (Ev.now _)
theorem runPlan_no_impl (l : List Int) (a b c d e f g h : Int) : Ev (fun k => impl_RunPlan.j0 k l true a b c d e f g h) (([] : List Int), 0, 0, 0, 0, false) :=
  Ev.step (f := fun _ => some (([] : List Int), 0, 0, 0, 0, false)) (fun k => by simp [impl_RunPlan.j0]) (Ev.now _)
theorem runPlan_both (a b c d e f g h : Int) (l : List Int) (hl : l.length ≤ 1048576) : ∃ T x y z u ok, Ev (fun k => spec_RunPlan.f k a b c d e f g h l) (T, x, y, z, u, ok) ∧ Ev (fun k => impl_RunPlan.f k a b c d e f g h l) (T, x, y, z, u, ok) ∧ T.length ≤ 13 := by
  cases q1 : isKitB (v4 a b c d)
  · refine ⟨[], 0, 0, 0, 0, false, ?_, ?_, by simp⟩
    · unfold spec_RunPlan.f xL2Sand.f
      simp only [Option.bind_some, q1, Bool.and_false, Bool.false_eq_true, if_false]
      exact runPlan_no_spec l a b c d e f g h
    · unfold impl_RunPlan.f xAreSand.f
      simp only [Option.bind_some, q1, Bool.false_and, Bool.false_eq_true, if_false]
      exact runPlan_no_impl l a b c d e f g h
  cases q2 : isSandB (v4 a b c d) (v4 e f g h)
  · refine ⟨[], 0, 0, 0, 0, false, ?_, ?_, by simp⟩
    · unfold spec_RunPlan.f xL2Sand.f
      simp only [Option.bind_some, q1, q2, Bool.and_true, Bool.false_eq_true, if_false]
      exact runPlan_no_spec l a b c d e f g h
    · unfold impl_RunPlan.f xAreSand.f
      simp only [Option.bind_some, q1, q2, Bool.true_and, Bool.false_eq_true, if_false]
      exact runPlan_no_impl l a b c d e f g h
  have P := plan_same a b c d l hl
  cases q3 : isPlanB (v4 a b c d) l
  · rw [q3] at P
    refine ⟨[], 0, 0, 0, 0, false, ?_, ?_, by simp⟩
    · unfold spec_RunPlan.f xL2Sand.f
      simp only [Option.bind_some, q1, q2, Bool.and_true, if_true]
      exact Ev.bind P (runPlan_no_spec l a b c d e f g h)
    · unfold impl_RunPlan.f xAreSand.f xIsPlan.f
      simp only [Option.bind_some, q1, q2, q3, Bool.true_and, Bool.false_eq_true, if_true, if_false]
      exact runPlan_no_impl l a b c d e f g h
  · rw [q3] at P
    have h12 : l.length ≤ 12 := by
      simp only [isPlanB, Bool.and_eq_true, decide_eq_true_eq] at q3; exact q3.1
    have M := moments_same a b c d e f g h l h12 q1 q2
    have R := run_same a b c d e f g h l h12 q1 q2
    have N := runGo_len (v4 a b c d) l [0] (v4 e f g h)
    have W : wrap64 ((l.length : Int) + 1) = ((l.length + 1 : Nat) : Int) := wrapN (n := l.length + 1) (by omega) (by omega)
    generalize runGo (v4 a b c d) l [0] (v4 e f g h) = G at M R N
    simp only [List.length_cons, List.length_nil] at N
    have S : ∀ r, Ev (fun k => if ((G.1.length : Nat) : Int) = wrap64 ((l.length : Int) + 1) then some (G.1, G.2 0, G.2 1, G.2 2, G.2 3, true) else some (([] : List Int), 0, 0, 0, 0, false)) r → Ev (fun k => spec_RunPlan.f k a b c d e f g h l) r := by
      intro r hr
      unfold spec_RunPlan.f xL2Sand.f
      simp only [Option.bind_some, q1, q2, Bool.and_true, if_true]
      refine Ev.bind P ?_
      refine Ev.step (f := fun k => _) (fun k => by simp only [spec_RunPlan.j0]; rfl) ?_
      simp only [Bool.not_true, Bool.false_eq_true, if_false]
      exact Ev.bind M hr
    have I : ∀ r, Ev (fun k => if ((G.1.length : Nat) : Int) ≤ (l.length : Int) then some (([] : List Int), 0, 0, 0, 0, false) else some (G.1, G.2 0, G.2 1, G.2 2, G.2 3, true)) r → Ev (fun k => impl_RunPlan.f k a b c d e f g h l) r := by
      intro r hr
      unfold impl_RunPlan.f xAreSand.f xIsPlan.f
      simp only [Option.bind_some, q1, q2, q3, Bool.true_and, if_true]
      refine Ev.step (f := fun k => _) (fun k => by simp only [impl_RunPlan.j0]; rfl) ?_
      simp only [Bool.not_true, Bool.false_eq_true, if_false, R, Option.bind_some]
      exact hr
    by_cases z : G.1.length ≤ l.length
    · exact ⟨[], 0, 0, 0, 0, false, S _ (ev_neg (by omega) (Ev.now _)), I _ (ev_pos (by omega) (Ev.now _)), by simp⟩
    · exact ⟨G.1, G.2 0, G.2 1, G.2 2, G.2 3, true, S _ (ev_pos (by omega) (Ev.now _)), I _ (ev_neg (by omega) (Ev.now _)), by omega⟩
end Go.Proofs.Ytohbmlhaaagfhaa
