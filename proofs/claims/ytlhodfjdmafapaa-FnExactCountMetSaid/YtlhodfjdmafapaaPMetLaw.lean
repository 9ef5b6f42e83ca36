/- Plain laws: the number of sands that are met; when a sand is met. No statement of the seat is proved here. -/
import Derived.Test.YtlhodfjdmafapaaMetTop
import Derived.Test.YtlhodfjdmafapaaPEv
import Derived.Test.YtlhodfjdmafapaaQAll1
import Derived.Test.YtlhodfjdmafapaaQAll2
namespace Go.Proofs.Ytlhodfjdmafapaa
open Go.RowKit Go.Proofs.YtlhodfjdmafapaaW.PrintWords Go.Proofs.Ytlhodfjdmafapaa.QAll
set_option linter.unusedVariables false
set_option linter.unusedSimpArgs false
theorem cnt_l0 : ∀ (d i : Nat) (out : List Int) (acc : Int), i + d = out.length → out.length ≤ 3000 → 0 ≤ acc → acc ≤ i → Ev (fun f => spec_CountMet.l0 f out acc (i : Int)) (acc + (cntO (out.drop i) : Int), true)
  | 0, i, out, acc, h, hl, ha, hb => by
    refine Ev.step (f := fun f => _) (fun f => by simp only [spec_CountMet.l0]; rfl) ?_
    refine ev_neg (by omega) ?_
    rw [List.drop_eq_nil_of_le (by omega)]
    simp only [cntO, List.filter_nil, List.length_nil, Int.natCast_zero, Int.add_zero]
    exact Ev.now _
  | d + 1, i, out, acc, h, hl, ha, hb => by
    have hw : wrap64 ((i : Int) + 1) = ((i + 1 : Nat) : Int) := by unfold wrap64; omega
    have hw2 : wrap64 (acc + 1) = acc + 1 := by unfold wrap64; omega
    have hil : i < out.length := by omega
    have hrd : rd out (i : Int) = out[i] := by
      unfold rd
      rw [List.getD_eq_getElem?_getD, Int.toNat_natCast, List.getElem?_eq_getElem hil]
      rfl
    refine Ev.step (f := fun f => _) (fun f => by simp only [spec_CountMet.l0]; rfl) ?_
    refine ev_pos (by omega) (ev_pos (by omega) ?_)
    rw [hrd, hw, hw2, List.drop_eq_getElem_cons hil]
    by_cases c : 0 ≤ out[i]
    · refine ev_pos c ?_
      have := cnt_l0 d (i + 1) out (acc + 1) (by omega) hl (by omega) (by omega)
      rw [show cntO (out[i] :: out.drop (i + 1)) = cntO (out.drop (i + 1)) + 1 from by unfold cntO; rw [List.filter_cons, if_pos (decide_eq_true c)]; rfl]
      rw [show acc + ((cntO (out.drop (i + 1)) + 1 : Nat) : Int) = acc + 1 + (cntO (out.drop (i + 1)) : Int) from by omega]
      exact this
    · refine ev_neg c ?_
      have := cnt_l0 d (i + 1) out acc (by omega) hl (by omega) (by omega)
      rw [show cntO (out[i] :: out.drop (i + 1)) = cntO (out.drop (i + 1)) from by unfold cntO; rw [List.filter_cons, if_neg (by simpa using c)]]
      exact this
theorem narB_calm (k : Nat → Int) : narB k (fun _ => 0) = (isKitB k && decide (prodOf k ≤ 3000)) := by
  unfold narB
  by_cases h : isKitB k = true
  · rw [show isSandB k (fun _ => 0) = true from sandB_of ⟨fun i hi => Int.le_refl 0, fun i hi => (kit_bounds h i hi).1, fun i hi => (kit_bounds h i hi).2⟩, Bool.and_true]
  · rw [show isKitB k = false by simpa using h]; simp
theorem countMet_spec (a b c d : Int) : ∃ r, Ev (fun f => spec_CountMet.f f a b c d) r ∧ xCountMet.f a b c d = some r := by
  refine ⟨_, ?_, rfl⟩
  have hnar : xL4Narrow.f a b c d = some (narB (v4 a b c d) (fun _ => 0)) := by rw [narB_calm]; rfl
  by_cases h : narB (v4 a b c d) (fun _ => 0) = true
  · obtain ⟨h1, h2, h3⟩ := nar_parts h
    have hk := kit_bounds h1
    have hp := (prod_is hk).2
    rw [h] at hnar
    unfold spec_CountMet.f
    rw [hnar, h, if_pos rfl]
    have he : xEarl.f a b c d = some (earlL (v4 a b c d)) := by unfold xEarl.f; rw [if_pos ⟨h1, h3⟩]
    rw [he]
    have hlen := earl_len (v4 a b c d) (by omega)
    have := cnt_l0 (earlL (v4 a b c d)).length 0 (earlL (v4 a b c d)) 0 (by omega) (by omega) (by omega) (by omega)
    rw [List.drop_zero, earl_cnt hk, Int.zero_add] at this
    exact this
  · have h' : narB (v4 a b c d) (fun _ => 0) = false := by simpa using h
    rw [h'] at hnar
    unfold spec_CountMet.f
    rw [hnar, h', if_neg (by simp)]
    exact Ev.now _
theorem countMet_law (a b c d : Int) : ∃ k, laws_FnExactCountMet.f k a b c d = some true := by
  obtain ⟨r, h1, h2⟩ := countMet_spec a b c d
  refine Ev.rounds ?_
  unfold laws_FnExactCountMet.f
  have ht : xToKit.f a b c d = some (a, b, c, d) := rfl
  rw [ht]
  simp only [Option.bind_some]
  refine Ev.bind h1 ?_
  rw [h2]
  simp only [Option.bind_some]
  exact ev_pos trivial (ev_neg (by simp) (Ev.now _))
theorem earliestSand_law (a b c d s0 s1 s2 s3 : Int) : laws_FnExactEarliestSand.f a b c d s0 s1 s2 s3 = some true := by
  unfold laws_FnExactEarliestSand.f
  have ht : xToKit.f a b c d = some (a, b, c, d) := rfl
  have hu : xToIntA4.f s0 s1 s2 s3 = some (s0, s1, s2, s3) := rfl
  rw [ht, hu]
  simp only [Option.bind_some]
  have hs : xEarliestS.f a b c d s0 s1 s2 s3 = xEarliest.f a b c d s0 s1 s2 s3 := rfl
  rw [hs]
  obtain ⟨r, h2⟩ : ∃ r, xEarliest.f a b c d s0 s1 s2 s3 = some r := ⟨_, rfl⟩
  rw [h2]
  simp
end Go.Proofs.Ytlhodfjdmafapaa
