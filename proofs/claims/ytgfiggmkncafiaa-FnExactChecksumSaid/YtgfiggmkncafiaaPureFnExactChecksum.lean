/- For all strings Checksum of the program and of the reference answer alike; no condition. -/
import Derived.Test.YtgfiggmkncafiaaPFnExactChecksumx1
namespace Go.Proofs.Ytgfiggmkncafiaa.Pure
open Go.RowKit Go.Proofs.Ytgfiggmkncafiaa.PFnExactChecksum Go.Proofs.YtgfiggmkncafiaaW.PrintWords Go.Proofs.YtgfiggmkncafiaaW.PrintLast

theorem loops (s : ByteArray) (hn : s.size ≤ 4000) (d : Nat) : ∀ (k : Nat) (h i : Int), 0 ≤ i → i ≤ s.size → (s.size : Int) - i = d → d < k →
    ∃ r, spec_l1Sum.l0 k s h i = some r ∧ impl_Checksum.l0 k s h (s.size : Int) i = some (r, true) := by
  induction d with
  | zero =>
    intro k h i h0 h1 hd hk
    obtain ⟨k, rfl⟩ : ∃ m, k = m + 1 := ⟨k - 1, by omega⟩
    refine ⟨h, ?_, ?_⟩
    · simp only [spec_l1Sum.l0]; rw [if_neg (by omega)]
    · simp only [impl_Checksum.l0]; rw [if_neg (by omega)]
  | succ d ih =>
    intro k h i h0 h1 hd hk
    obtain ⟨k, rfl⟩ : ∃ m, k = m + 1 := ⟨k - 1, by omega⟩
    have hlt : i < (s.size : Int) := by omega
    have hw : wrap64 (i + 1) = i + 1 := by unfold wrap64; omega
    simp only [spec_l1Sum.l0, impl_Checksum.l0]
    simp only [if_pos hlt, if_pos h0, hw]
    exact ih k _ (i + 1) (by omega) (by omega) (by omega) (by omega)

/-- YOURS: ∀ (a0 : ByteArray), a0.size ≤ 140737488351232 → ∃ k, laws_FnExactChecksum.f k a0 = some true
What it reaches (each with k first where it has rounds; `.mono`: more rounds tell the same; `.l0`, ..: its loops, with `.mono_l`): spec_l1Sum.f, spec_Checksum.f, impl_Checksum.f, laws_FnExactChecksum.f -/
theorem FnExactChecksum : laws_FnExactChecksum.Pure := by
  intro s _
  refine ⟨s.size + 1, ?_⟩
  unfold laws_FnExactChecksum.f
  split
  · rfl
  · unfold spec_Checksum.f impl_Checksum.f
    by_cases hl : (s.size : Int) > 4000
    · rw [if_pos hl, if_pos hl]; simp
    · rw [if_neg hl, if_neg hl]
      obtain ⟨r, h1, h2⟩ := loops s (by omega) s.size (s.size + 1) 7 0 (by omega) (by omega) (by omega) (by omega)
      unfold spec_l1Sum.f
      rw [h1, h2]; simp

end Go.Proofs.Ytgfiggmkncafiaa.Pure
