/- The plain law of MeasuredFrom. No statement of the seat is proved here. -/
import Derived.Test.YtlhodfjdmafapaaMMeas
import Derived.Test.YtlhodfjdmafapaaQMf1
namespace Go.Proofs.Ytlhodfjdmafapaa
open Go.RowKit Go.Proofs.YtlhodfjdmafapaaW.PrintWords Go.Proofs.YtlhodfjdmafapaaW.PrintLast Go.Proofs.Ytlhodfjdmafapaa.QMf
theorem measuredFrom_law (a b c d s0 s1 s2 s3 t : Int) : laws_FnExactMeasuredFrom.f a b c d s0 s1 s2 s3 t = some true := by
  unfold laws_FnExactMeasuredFrom.f
  have ht : xToKit.f a b c d = some (a, b, c, d) := rfl
  have hu : xToIntA4.f s0 s1 s2 s3 = some (s0, s1, s2, s3) := rfl
  rw [ht, hu]
  simp only [Option.bind_some]
  have hs : xMeasS.f a b c d s0 s1 s2 s3 t = xMeas.f a b c d s0 s1 s2 s3 t := rfl
  rw [hs]
  obtain ⟨r, h2⟩ : ∃ r, xMeas.f a b c d s0 s1 s2 s3 t = some r := ⟨_, rfl⟩
  rw [h2]
  simp
end Go.Proofs.Ytlhodfjdmafapaa
