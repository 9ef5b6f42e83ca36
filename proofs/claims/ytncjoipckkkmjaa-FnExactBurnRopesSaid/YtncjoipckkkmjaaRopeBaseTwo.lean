/- Plain words on ropes that burn, and which number of ticks they may burn. No statement of the seat is proved here. -/
import Derived.Test.YtncjoipckkkmjaaRopeBase
namespace Go.Proofs.Ytncjoipckkkmjaa
open Go.RowKit
/-- what is left of a place when some ticks have passed, as the code computes it -/
def burnQ (r : Nat → Int) (d : Int) (j : Nat) : Int := wrap64 (r j - wrap64 (d * r (3 + j)))
def burnF (r : Nat → Int) (d : Int) : Nat → Int := fun i => if i < 3 then burnQ r d i else if burnQ r d (i - 3) = 0 then 0 else r i
def overB (r : Nat → Int) (d : Int) (j : Nat) : Bool := decide (0 < r (3 + j)) && decide (r j / r (3 + j) < d)
def burnsB (r : Nat → Int) (d : Int) : Bool := (d == 0) || decide (0 < r 3) || decide (0 < r 4) || decide (0 < r 5)
def burnsOk (r : Nat → Int) (d : Int) : Bool := !overB r d 0 && !overB r d 1 && !overB r d 2 && burnsB r d
def burnV (r : Nat → Int) (d : Int) : Bool := isRopesB r && inB 0 (halvesF r / 2) d
theorem half_quot {a e : Int} (he : 1 ≤ e ∧ e ≤ 2) : (2 * a / e) / 2 = a / e := by
  obtain rfl | rfl : e = 1 ∨ e = 2 := by omega
  all_goals omega
/-- the state of the search for the next burning out, behind j places -/
def HInv (r : Nat → Int) (d : Int) (j : Nat) : Prop :=
  0 ≤ halvesTo r j ∧ (halvesTo r j = 0 → ∀ i, i < j → ¬ 0 < r (3 + i)) ∧ (halvesTo r j ≠ 0 → (∃ i, i < j ∧ 0 < r (3 + i)) ∧ (d ≤ halvesTo r j / 2 ↔ ∀ i, i < j → overB r d i = false))
theorem hinv_step {r : Nat → Int} (h : Rope r) {d : Int} {j : Nat} (hj : j < 3) (ih : HInv r d j) : HInv r d (j + 1) := by
  obtain ⟨i0, i1, i2⟩ := ih
  have en := h.en j hj
  have lo := h.lo j hj
  have no := h.no j hj
  unfold HInv
  have e : halvesTo r (j + 1) = hx r (halvesTo r j) j := rfl
  rw [e]
  unfold hx
  by_cases p : r (3 + j) = 0
  · rw [if_pos p]
    refine ⟨i0, fun z i hi => ?_, fun z => ?_⟩
    · by_cases q : i = j
      · subst q; omega
      · exact i1 z i (by omega)
    · obtain ⟨⟨i, hi, hp⟩, hq⟩ := i2 z
      refine ⟨⟨i, by omega, hp⟩, ?_⟩
      rw [hq]
      constructor
      · intro g i hi
        by_cases q : i = j
        · subst q; simp [overB, p]
        · exact g i (by omega)
      · intro g i hi; exact g i (by omega)
  · rw [if_neg p]
    have hp : 0 < r (3 + j) := by omega
    have hh := half_quot (a := r j) (e := r (3 + j)) (by omega)
    have hq1 : 1 ≤ 2 * r j / r (3 + j) := by
      have : r j ≠ 0 := fun z => p (no z)
      obtain z | z : r (3 + j) = 1 ∨ r (3 + j) = 2 := by omega
      all_goals rw [z]; omega
    have ov : overB r d j = false ↔ d ≤ r j / r (3 + j) := by
      simp [overB, hp]
    generalize hQ : 2 * r j / r (3 + j) = Q at *
    generalize hA : r j / r (3 + j) = A at *
    generalize hL : halvesTo r j = L at *
    have key : ∀ M : Int, M ≠ 0 → (d ≤ M / 2 ↔ (d ≤ A ∧ (L ≠ 0 → d ≤ L / 2))) → (∃ i, i < j + 1 ∧ 0 < r (3 + i)) ∧ (d ≤ M / 2 ↔ ∀ i, i < j + 1 → overB r d i = false) := by
      intro M _ hM
      refine ⟨⟨j, by omega, hp⟩, ?_⟩
      rw [hM]
      constructor
      · rintro ⟨g1, g2⟩ i hi
        by_cases q : i = j
        · subst q; exact ov.2 g1
        · by_cases z : L = 0
          · have := i1 z i (by omega)
            simp [overB, this]
          · exact (i2 z).2.1 (g2 z) i (by omega)
      · intro g
        exact ⟨ov.1 (g j (by omega)), fun z => (i2 z).2.2 (fun i hi => g i (by omega))⟩
    by_cases c : L = 0 ∨ Q < L
    · rw [if_pos c]
      exact ⟨by omega, fun z => by omega, fun z => key Q z (by omega)⟩
    · rw [if_neg c]
      exact ⟨by omega, fun z => by omega, fun z => key L z (by omega)⟩
theorem burns_ok {r : Nat → Int} (h : Rope r) {d : Int} (hd : 0 ≤ d) : burnsOk r d = inB 0 (halvesF r / 2) d := by
  have h0 : HInv r d 0 := ⟨Int.le_refl 0, fun _ i hi => absurd hi (Nat.not_lt_zero i), fun z => absurd rfl z⟩
  have h3 := hinv_step h (j := 2) (by omega) (hinv_step h (j := 1) (by omega) (hinv_step h (j := 0) (by omega) h0))
  obtain ⟨a, b, c⟩ := h3
  have e : halvesTo r (2 + 1) = halvesF r := rfl
  rw [e] at a b c
  rw [inB_t hd]
  by_cases z : halvesF r = 0
  · have b' := b z
    have q0 : ¬ 0 < r 3 := b' 0 (by omega)
    have q1 : ¬ 0 < r 4 := b' 1 (by omega)
    have q2 : ¬ 0 < r 5 := b' 2 (by omega)
    rw [z]
    simp only [burnsOk, overB, burnsB, q0, q1, q2, decide_false, Bool.false_and, Bool.not_false, Bool.and_self, Bool.true_and, Bool.or_false]
    rw [Bool.eq_iff_iff]
    simp
    omega
  · obtain ⟨⟨i, hi, hp⟩, hq⟩ := c z
    have hb : burnsB r d = true := by
      obtain rfl | rfl | rfl : i = 0 ∨ i = 1 ∨ i = 2 := by omega
      · have : 0 < r 3 := hp
        simp [burnsB, this]
      · have : 0 < r 4 := hp
        simp [burnsB, this]
      · have : 0 < r 5 := hp
        simp [burnsB, this]
    rw [Bool.eq_iff_iff, decide_eq_true_eq, hq]
    simp only [burnsOk, hb, Bool.and_true, Bool.and_eq_true, Bool.not_eq_true']
    constructor
    · rintro ⟨⟨g0, g1⟩, g2⟩ i hi
      obtain rfl | rfl | rfl : i = 0 ∨ i = 1 ∨ i = 2 := by omega
      all_goals assumption
    · intro g
      exact ⟨⟨g 0 (by omega), g 1 (by omega)⟩, g 2 (by omega)⟩
end Go.Proofs.Ytncjoipckkkmjaa
