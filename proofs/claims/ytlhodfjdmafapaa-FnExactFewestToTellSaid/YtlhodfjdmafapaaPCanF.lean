/- FewestToTell: the plain law. No statement of the seat is proved here. -/
import Derived.Test.YtlhodfjdmafapaaPCan
import Derived.Test.YtlhodfjdmafapaaQAll12
namespace Go.Proofs.Ytlhodfjdmafapaa
open Go.RowKit Go.Proofs.YtlhodfjdmafapaaW.PrintWords Go.Proofs.YtlhodfjdmafapaaW.PrintLast Go.Proofs.Ytlhodfjdmafapaa.QAll
set_option linter.unusedVariables false
set_option linter.unusedSimpArgs false
theorem fewestToTell_law (a0_0 a0_1 a0_2 a0_3 a1_0 a1_1 a1_2 a1_3 a2 : Int) : ∃ k, laws_FnExactFewestToTell.f k a0_0 a0_1 a0_2 a0_3 a1_0 a1_1 a1_2 a1_3 a2 = some true := by
  refine Ev.rounds ?_
  have hg := good_f a0_0 a0_1 a0_2 a0_3 (a1_0, a1_1, a1_2, a1_3) a2
  have key : ∃ x ok, Ev (fun f => spec_FewestToTell.f f a0_0 a0_1 a0_2 a0_3 a1_0 a1_1 a1_2 a1_3 a2) (x, ok) ∧ xFewest.f a0_0 a0_1 a0_2 a0_3 a1_0 a1_1 a1_2 a1_3 a2 = some (x, ok) := by
    unfold spec_FewestToTell.f xFewest.f
    simp only at hg
    rw [hg]
    simp only [Option.bind_some]
    cases h : searchB (v4 a0_0 a0_1 a0_2 a0_3) (a1_0, a1_1, a1_2, a1_3) a2
    · exact ⟨0, false, ev_neg (by simp) (Ev.now _), if_neg (by simp)⟩
    · have hs := sets_ev a0_0 a0_1 a0_2 a0_3 (a1_0, a1_1, a1_2, a1_3) a2 h
      obtain ⟨B, hB⟩ : ∃ B, (tellTo (v4 a0_0 a0_1 a0_2 a0_3) (a1_0, a1_1, a1_2, a1_3) a2 13).sets = B := ⟨_, rfl⟩
      rw [hB] at hs ⊢
      refine ⟨if B < 0 then 0 else B, decide (0 ≤ B), ev_pos rfl (Ev.bind hs ?_), if_pos rfl⟩
      by_cases q : B < 0
      · refine ev_pos q ?_
        rw [if_pos q, show decide (0 ≤ B) = false from decide_eq_false (by omega)]
        exact Ev.now _
      · refine ev_neg q (Ev.bind hs ?_)
        rw [if_neg q, show decide (0 ≤ B) = true from decide_eq_true (by omega)]
        exact Ev.now _
  obtain ⟨x, ok, h1, h2⟩ := key
  unfold laws_FnExactFewestToTell.f
  rw [show xToKit.f a0_0 a0_1 a0_2 a0_3 = some (a0_0, a0_1, a0_2, a0_3) from rfl, show xToIntA4.f a1_0 a1_1 a1_2 a1_3 = some (a1_0, a1_1, a1_2, a1_3) from rfl]
  simp only [Option.bind_some]
  refine Ev.bind h1 ?_
  rw [h2]
  simp only [Option.bind_some]
  exact ev_pos (by trivial) (ev_neg (by simp) (Ev.now _))
end Go.Proofs.Ytlhodfjdmafapaa
