/- CanTell: the plain law. No statement of the seat is proved here. -/
import Derived.Test.YtlhodfjdmafapaaPCan
import Derived.Test.YtlhodfjdmafapaaQAll10
namespace Go.Proofs.Ytlhodfjdmafapaa
open Go.RowKit Go.Proofs.YtlhodfjdmafapaaW.PrintWords Go.Proofs.YtlhodfjdmafapaaW.PrintLast Go.Proofs.Ytlhodfjdmafapaa.QAll
set_option linter.unusedVariables false
set_option linter.unusedSimpArgs false
theorem canTell_law (a0_0 a0_1 a0_2 a0_3 a1_0 a1_1 a1_2 a1_3 a2 : Int) : ∃ k, laws_FnExactCanTell.f k a0_0 a0_1 a0_2 a0_3 a1_0 a1_1 a1_2 a1_3 a2 = some true := by
  refine Ev.rounds ?_
  have hg := good_f a0_0 a0_1 a0_2 a0_3 (a1_0, a1_1, a1_2, a1_3) a2
  have key : ∃ x ok, Ev (fun f => spec_CanTell.f f a0_0 a0_1 a0_2 a0_3 a1_0 a1_1 a1_2 a1_3 a2) (x, ok) ∧ xCanTell.f a0_0 a0_1 a0_2 a0_3 a1_0 a1_1 a1_2 a1_3 a2 = some (x, ok) := by
    unfold spec_CanTell.f xCanTell.f
    simp only at hg
    rw [hg]
    simp only [Option.bind_some]
    cases h : searchB (v4 a0_0 a0_1 a0_2 a0_3) (a1_0, a1_1, a1_2, a1_3) a2
    · exact ⟨false, false, ev_neg (by simp) (Ev.now _), if_neg (by simp)⟩
    · exact ⟨_, _, ev_pos rfl (Ev.bind (sets_ev a0_0 a0_1 a0_2 a0_3 (a1_0, a1_1, a1_2, a1_3) a2 h) (Ev.now _)), if_pos rfl⟩
  obtain ⟨x, ok, h1, h2⟩ := key
  unfold laws_FnExactCanTell.f
  rw [show xToKit.f a0_0 a0_1 a0_2 a0_3 = some (a0_0, a0_1, a0_2, a0_3) from rfl, show xToIntA4.f a1_0 a1_1 a1_2 a1_3 = some (a1_0, a1_1, a1_2, a1_3) from rfl]
  simp only [Option.bind_some]
  refine Ev.bind h1 ?_
  rw [h2]
  simp only [Option.bind_some]
  exact ev_neg (by simp) (ev_neg (by simp) (Ev.now _))
end Go.Proofs.Ytlhodfjdmafapaa
