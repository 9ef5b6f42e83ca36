/- More plain words: greatest common divisors; quiet calls behind quiet calls. No statement of the seat is proved here. -/
import Derived.Test.YtlhodfjdmafapaaBase
namespace Go.Proofs.Ytlhodfjdmafapaa
open Go.RowKit

theorem quiet_add {P : Program} {f : FuncId} {args : Array Value} {w : World} {a n : Nat} {v : Value}
    (h : Calls P f args (w.drewN (a + n)) fun e w' => e = .returned v ∧ ∃ m, w' = (w.drewN (a + n)).drewN m) :
    Calls P f args (w.drewN (a + n)) fun e w'' => e = .returned v ∧ ∃ m, w'' = w.drewN (a + m) :=
  h.mono fun _ _ ⟨he, m, hm⟩ => ⟨he, n + m, by rw [hm, World.drewN_drewN, Nat.add_assoc]⟩
theorem keep_free {W w1 : World} {a : Addr} {v : Value} (hb : Below W.heap.size W w1) (h : W.cell? a = some v) (hf : W.frozen? a = false) : w1.frozen? a = false :=
  (hb.frozen (there h)).trans hf
theorem cell_swap {W : World} {a : Addr} {v : Value} {Z C : Obj} (h : (W.alloc Z).cell? a = some v) (hl : a.block < W.heap.size) : (W.alloc C).cell? a = some v := by
  have h1 := World.cell?_alloc_lt W Z a hl
  have h2 := World.cell?_alloc_lt W C a hl
  rw [h2, ← h1]; exact h
theorem below_swap {w W : World} {Z C : Obj} (h : Below w.heap.size w (W.alloc Z)) (hl : w.heap.size ≤ W.heap.size) : Below w.heap.size w (W.alloc C) :=
  ⟨h.os, h.tape, h.output, by simp; omega, fun k hk => (Below.heap_alloc W C k (by omega)).trans ((Below.heap_alloc W Z k (by omega)).symm.trans (h.block k hk))⟩
theorem bl_new {w W : World} (o : Obj) (h : Below w.heap.size w W) : Below w.heap.size w (W.alloc o) := h.alloc h.size o
theorem keep_set {W : World} {a p : Addr} {v : Value} (u : Value) (h : W.cell? a = some v) (hl : a.block ≠ p.block) : (W.setCell p u).cell? a = some v :=
  (World.cell?_setCell_other W p a u (fun e => hl (by rw [e]))).trans h
theorem set4_0 {W : World} {b : Nat} (u : Value) {x0 x1 x2 x3 : Value} (h : W.cell? ⟨b, 0, none⟩ = some u) : ((((W.setCell ⟨b, 0, none⟩ x0).setCell ⟨b, 1, none⟩ x1).setCell ⟨b, 2, none⟩ x2).setCell ⟨b, 3, none⟩ x3).cell? ⟨b, 0, none⟩ = some x0 := by
  rw [World.cell?_setCell_other _ _ _ _ (by simp), World.cell?_setCell_other _ _ _ _ (by simp), World.cell?_setCell_other _ _ _ _ (by simp)]
  exact World.cell?_setCell_same W _ x0 h
theorem set4_1 {W : World} {b : Nat} (u : Value) {x0 x1 x2 x3 : Value} (h : W.cell? ⟨b, 1, none⟩ = some u) : ((((W.setCell ⟨b, 0, none⟩ x0).setCell ⟨b, 1, none⟩ x1).setCell ⟨b, 2, none⟩ x2).setCell ⟨b, 3, none⟩ x3).cell? ⟨b, 1, none⟩ = some x1 := by
  rw [World.cell?_setCell_other _ _ _ _ (by simp), World.cell?_setCell_other _ _ _ _ (by simp)]
  exact World.cell?_setCell_same _ _ x1 ((World.cell?_setCell_other _ _ _ _ (by simp)).trans h)
theorem set4_2 {W : World} {b : Nat} (u : Value) {x0 x1 x2 x3 : Value} (h : W.cell? ⟨b, 2, none⟩ = some u) : ((((W.setCell ⟨b, 0, none⟩ x0).setCell ⟨b, 1, none⟩ x1).setCell ⟨b, 2, none⟩ x2).setCell ⟨b, 3, none⟩ x3).cell? ⟨b, 2, none⟩ = some x2 := by
  rw [World.cell?_setCell_other _ _ _ _ (by simp)]
  exact World.cell?_setCell_same _ _ x2 ((World.cell?_setCell_other _ _ _ _ (by simp)).trans ((World.cell?_setCell_other _ _ _ _ (by simp)).trans h))
theorem set4_3 {W : World} {b : Nat} (u : Value) {x0 x1 x2 x3 : Value} (h : W.cell? ⟨b, 3, none⟩ = some u) : ((((W.setCell ⟨b, 0, none⟩ x0).setCell ⟨b, 1, none⟩ x1).setCell ⟨b, 2, none⟩ x2).setCell ⟨b, 3, none⟩ x3).cell? ⟨b, 3, none⟩ = some x3 :=
  World.cell?_setCell_same _ _ x3 ((World.cell?_setCell_other _ _ _ _ (by simp)).trans ((World.cell?_setCell_other _ _ _ _ (by simp)).trans ((World.cell?_setCell_other _ _ _ _ (by simp)).trans h)))
theorem gcdF_zero {a : Int} (h : 0 ≤ a) : gcdF a 0 = a := by
  unfold gcdF; simp; omega
theorem gcdF_step {a b : Int} (ha : 0 ≤ a) (hb : 0 < b) : gcdF b (a % b) = gcdF a b := by
  unfold gcdF
  have e : (a % b).toNat = a.toNat % b.toNat := by
    obtain ⟨m, rfl⟩ := Int.eq_ofNat_of_zero_le ha
    obtain ⟨n, rfl⟩ := Int.eq_ofNat_of_zero_le (Int.le_of_lt hb)
    rfl
  rw [e, Nat.gcd_comm b.toNat, ← Nat.gcd_rec, Nat.gcd_comm]
theorem gcdF_nonneg (a b : Int) : 0 ≤ gcdF a b := by unfold gcdF; omega
theorem gcdF_comm (a b : Int) : gcdF a b = gcdF b a := by unfold gcdF; rw [Nat.gcd_comm]
theorem zero_gcdF {a : Int} (h : 0 ≤ a) : gcdF 0 a = a := by rw [gcdF_comm]; exact gcdF_zero h
theorem gcdF_le {a b : Int} (ha : 0 ≤ a ∧ a ≤ 30) (hb : 0 ≤ b ∧ b ≤ 30) : gcdF a b ≤ 30 := by
  unfold gcdF
  rcases Nat.eq_zero_or_pos a.toNat with h | h
  · rw [h, Nat.gcd_zero_left]; omega
  · have := Nat.gcd_le_left b.toNat h; omega
/-- what CommonMinutes comes to of calm sand -/
def glassTo (k : Nat → Int) : Nat → Int
  | 0 => 0
  | j + 1 => gcdF (glassTo k j) (k j)
theorem gcdTo_b {k s : Nat → Int} (h : Sand k s) : ∀ j, j ≤ 4 → 0 ≤ gcdTo k s j ∧ gcdTo k s j ≤ 30
  | 0, _ => by simp [gcdTo]
  | j + 1, hj => by
    have ih := gcdTo_b h j (by omega)
    have hk : 0 ≤ k j ∧ k j ≤ 30 := by have := h.lo j (by omega); have := h.hi j (by omega); have := h.top j (by omega); omega
    have hs : 0 ≤ s j ∧ s j ≤ 30 := by have := h.lo j (by omega); have := h.hi j (by omega); have := h.top j (by omega); omega
    exact ⟨gcdF_nonneg _ _, gcdF_le ⟨gcdF_nonneg _ _, gcdF_le ih hk⟩ hs⟩
theorem glassTo_b {k : Nat → Int} (h : ∀ i, i < 4 → 0 ≤ k i ∧ k i ≤ 30) : ∀ j, j ≤ 4 → 0 ≤ glassTo k j ∧ glassTo k j ≤ 30
  | 0, _ => by simp [glassTo]
  | j + 1, hj => ⟨gcdF_nonneg _ _, gcdF_le (glassTo_b h j (by omega)) (h j (by omega))⟩
theorem gcdTo_calm {k : Nat → Int} : ∀ j, gcdTo k (fun _ => 0) j = glassTo k j
  | 0 => rfl
  | j + 1 => by
    show gcdF (gcdF (gcdTo k (fun _ => 0) j) (k j)) 0 = _
    rw [gcdTo_calm j, gcdF_zero (gcdF_nonneg _ _)]; rfl
end Go.Proofs.Ytlhodfjdmafapaa
