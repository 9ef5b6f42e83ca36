/- Plain words on ropes: Left at 0, 1, 2, Ends at 3, 4, 5. No statement of the seat is proved here. -/
import Derived.Test.YtncjoipckkkmjaaBase
namespace Go.Proofs.Ytncjoipckkkmjaa
open Go.RowKit

def ropeB (r : Nat → Int) (j : Nat) : Bool := inB 0 3840 (r j) && inB 0 2 (r (3 + j)) && !(decide (r j = 0) && !decide (r (3 + j) = 0))
def isRopesB (r : Nat → Int) : Bool := ropeB r 0 && ropeB r 1 && ropeB r 2
/-- ropes that are valid, in inequalities -/
structure Rope (r : Nat → Int) : Prop where
  lo : ∀ j, j < 3 → 0 ≤ r j ∧ r j ≤ 3840
  en : ∀ j, j < 3 → 0 ≤ r (3 + j) ∧ r (3 + j) ≤ 2
  no : ∀ j, j < 3 → r j = 0 → r (3 + j) = 0
theorem three {p : Nat → Prop} (h0 : p 0) (h1 : p 1) (h2 : p 2) : ∀ i, i < 3 → p i := by
  intro i hi
  obtain rfl | rfl | rfl : i = 0 ∨ i = 1 ∨ i = 2 := by omega
  all_goals assumption
theorem rope_of {r : Nat → Int} (h : isRopesB r = true) : Rope r := by
  have q : ∀ j, ropeB r j = true → (0 ≤ r j ∧ r j ≤ 3840) ∧ (0 ≤ r (3 + j) ∧ r (3 + j) ≤ 2) ∧ (r j = 0 → r (3 + j) = 0) := by
    intro j hj
    simp only [ropeB, Bool.and_eq_true, inB_iff, Bool.not_eq_true', Bool.and_eq_false_iff, decide_eq_false_iff_not, Bool.not_eq_false', decide_eq_true_eq] at hj
    refine ⟨hj.1.1, hj.1.2, fun h0 => ?_⟩
    rcases hj.2 with h | h
    · exact absurd h0 h
    · exact h
  simp only [isRopesB, Bool.and_eq_true] at h
  obtain ⟨⟨h0, h1⟩, h2⟩ := h
  exact ⟨three (q 0 h0).1 (q 1 h1).1 (q 2 h2).1, three (q 0 h0).2.1 (q 1 h1).2.1 (q 2 h2).2.1, three (q 0 h0).2.2 (q 1 h1).2.2 (q 2 h2).2.2⟩
def freshB (m : Nat → Int) : Bool := inB 0 60 (m 0) && inB 0 60 (m 1) && inB 0 60 (m 2)
def freshF (m : Nat → Int) : Nat → Int := fun i => if i < 3 then wrap64 (m i * 64) else 0
/-- a lighting of one place is possible -/
def litB (r l : Nat → Int) (j : Nat) : Bool := inB 0 2 (l j) && decide (r (3 + j) + l j ≤ 2) && !(decide (r j = 0) && decide (0 < l j))
def litsB (r l : Nat → Int) : Bool := litB r l 0 && litB r l 1 && litB r l 2
/-- the ropes when the first n places have been lit -/
def litTo (r l : Nat → Int) (n : Nat) : Nat → Int := fun i => if 3 ≤ i ∧ i < 3 + n then r i + l (i - 3) else r i
/-- halves of a tick until the next burning out -/
def hx (r : Nat → Int) (least : Int) (j : Nat) : Int := if r (3 + j) = 0 then least else if least = 0 ∨ 2 * r j / r (3 + j) < least then 2 * r j / r (3 + j) else least
def halvesTo (r : Nat → Int) : Nat → Int
  | 0 => 0
  | j + 1 => hx r (halvesTo r j) j
def halvesF (r : Nat → Int) : Int := halvesTo r 3
def toldF (r : Nat → Int) : Int := if halvesF r % 2 = 0 then halvesF r / 2 else 0
theorem quot_b {a b : Int} (ha : 0 ≤ a ∧ a ≤ 3840) (hb : 1 ≤ b ∧ b ≤ 2) : 0 ≤ 2 * a / b ∧ 2 * a / b ≤ 7680 := by
  obtain rfl | rfl : b = 1 ∨ b = 2 := by omega
  all_goals omega
theorem hx_b {r : Nat → Int} (h : Rope r) {l : Int} (hl : 0 ≤ l ∧ l ≤ 7680) {j : Nat} (hj : j < 3) : 0 ≤ hx r l j ∧ hx r l j ≤ 7680 := by
  unfold hx
  split
  · exact hl
  · split
    · have := h.en j hj
      exact quot_b (h.lo j hj) (by omega)
    · exact hl
theorem Rope.halves {r : Nat → Int} (h : Rope r) : 0 ≤ halvesF r ∧ halvesF r ≤ 7680 := by
  have h0 : (0 : Int) ≤ 0 ∧ (0 : Int) ≤ 7680 := ⟨by omega, by omega⟩
  have h1 := hx_b h h0 (j := 0) (by omega)
  have h2 := hx_b h h1 (j := 1) (by omega)
  exact hx_b h h2 (j := 2) (by omega)
theorem Rope.told {r : Nat → Int} (h : Rope r) : 0 ≤ toldF r ∧ toldF r ≤ 3840 := by
  have := h.halves
  unfold toldF
  split <;> omega
end Go.Proofs.Ytncjoipckkkmjaa
