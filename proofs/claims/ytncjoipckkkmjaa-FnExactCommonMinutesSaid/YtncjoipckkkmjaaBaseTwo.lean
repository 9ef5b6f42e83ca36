/- More plain words: greatest common divisors; quiet calls behind quiet calls. No statement of the seat is proved here. -/
import Derived.Test.YtncjoipckkkmjaaBase
namespace Go.Proofs.Ytncjoipckkkmjaa
open Go.RowKit

theorem quiet_add {P : Program} {f : FuncId} {args : Array Value} {w : World} {a n : Nat} {v : Value}
    (h : Calls P f args (w.drewN (a + n)) fun e w' => e = .returned v ∧ ∃ m, w' = (w.drewN (a + n)).drewN m) :
    Calls P f args (w.drewN (a + n)) fun e w'' => e = .returned v ∧ ∃ m, w'' = w.drewN (a + m) :=
  h.mono fun _ _ ⟨he, m, hm⟩ => ⟨he, n + m, by rw [hm, World.drewN_drewN, Nat.add_assoc]⟩
theorem keep_free {W w1 : World} {a : Addr} {v : Value} (hb : Below W.heap.size W w1) (h : W.cell? a = some v) (hf : W.frozen? a = false) : w1.frozen? a = false :=
  (hb.frozen (there h)).trans hf
theorem gcdF_zero {a : Int} (h : 0 ≤ a) : gcdF a 0 = a := by
  unfold gcdF; simp; omega
theorem gcdF_step {a b : Int} (ha : 0 ≤ a) (hb : 0 < b) : gcdF b (a % b) = gcdF a b := by
  unfold gcdF
  have e : (a % b).toNat = a.toNat % b.toNat := by
    obtain ⟨m, rfl⟩ := Int.eq_ofNat_of_zero_le ha
    obtain ⟨n, rfl⟩ := Int.eq_ofNat_of_zero_le (Int.le_of_lt hb)
    rfl
  rw [e, Nat.gcd_comm b.toNat, ← Nat.gcd_rec, Nat.gcd_comm]
theorem gcdF_nonneg (a b : Int) : 0 ≤ gcdF a b := by unfold gcdF; omega
theorem gcdF_comm (a b : Int) : gcdF a b = gcdF b a := by unfold gcdF; rw [Nat.gcd_comm]
theorem zero_gcdF {a : Int} (h : 0 ≤ a) : gcdF 0 a = a := by rw [gcdF_comm]; exact gcdF_zero h
theorem gcdF_le {a b : Int} (ha : 0 ≤ a ∧ a ≤ 30) (hb : 0 ≤ b ∧ b ≤ 30) : gcdF a b ≤ 30 := by
  unfold gcdF
  rcases Nat.eq_zero_or_pos a.toNat with h | h
  · rw [h, Nat.gcd_zero_left]; omega
  · have := Nat.gcd_le_left b.toNat h; omega
/-- what CommonMinutes comes to of calm sand -/
def glassTo (k : Nat → Int) : Nat → Int
  | 0 => 0
  | j + 1 => gcdF (glassTo k j) (k j)
theorem gcdTo_b {k s : Nat → Int} (h : Sand k s) : ∀ j, j ≤ 4 → 0 ≤ gcdTo k s j ∧ gcdTo k s j ≤ 30
  | 0, _ => by simp [gcdTo]
  | j + 1, hj => by
    have ih := gcdTo_b h j (by omega)
    have hk : 0 ≤ k j ∧ k j ≤ 30 := by have := h.lo j (by omega); have := h.hi j (by omega); have := h.top j (by omega); omega
    have hs : 0 ≤ s j ∧ s j ≤ 30 := by have := h.lo j (by omega); have := h.hi j (by omega); have := h.top j (by omega); omega
    exact ⟨gcdF_nonneg _ _, gcdF_le ⟨gcdF_nonneg _ _, gcdF_le ih hk⟩ hs⟩
theorem glassTo_b {k : Nat → Int} (h : ∀ i, i < 4 → 0 ≤ k i ∧ k i ≤ 30) : ∀ j, j ≤ 4 → 0 ≤ glassTo k j ∧ glassTo k j ≤ 30
  | 0, _ => by simp [glassTo]
  | j + 1, hj => ⟨gcdF_nonneg _ _, gcdF_le (glassTo_b h j (by omega)) (h j (by omega))⟩
theorem gcdTo_calm {k : Nat → Int} : ∀ j, gcdTo k (fun _ => 0) j = glassTo k j
  | 0 => rfl
  | j + 1 => by
    show gcdF (gcdF (gcdTo k (fun _ => 0) j) (k j)) 0 = _
    rw [gcdTo_calm j, gcdF_zero (gcdF_nonneg _ _)]; rfl
end Go.Proofs.Ytncjoipckkkmjaa
