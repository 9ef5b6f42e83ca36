/- Small lemmas: six stores in a row, read back. No statement of the seat is proved here. -/
import Derived.Test.YtncjoipckkkmjaaBaseTwo
namespace Go.Proofs.Ytncjoipckkkmjaa
open Go.RowKit
theorem set6_0 {W : World} {b : Nat} (u : Value) {x0 x1 x2 x3 x4 x5 : Value} (h : W.cell? ⟨b, 0, none⟩ = some u) : (World.setCell (World.setCell (World.setCell (World.setCell (World.setCell (World.setCell W ⟨b, 0, none⟩ x0) ⟨b, 1, none⟩ x1) ⟨b, 2, none⟩ x2) ⟨b, 3, none⟩ x3) ⟨b, 4, none⟩ x4) ⟨b, 5, none⟩ x5).cell? ⟨b, 0, none⟩ = some x0 := by
  rw [World.cell?_setCell_other _ _ _ _ (by simp), World.cell?_setCell_other _ _ _ _ (by simp), World.cell?_setCell_other _ _ _ _ (by simp), World.cell?_setCell_other _ _ _ _ (by simp), World.cell?_setCell_other _ _ _ _ (by simp)]
  exact World.cell?_setCell_same _ _ x0 h
theorem set6_1 {W : World} {b : Nat} (u : Value) {x0 x1 x2 x3 x4 x5 : Value} (h : W.cell? ⟨b, 1, none⟩ = some u) : (World.setCell (World.setCell (World.setCell (World.setCell (World.setCell (World.setCell W ⟨b, 0, none⟩ x0) ⟨b, 1, none⟩ x1) ⟨b, 2, none⟩ x2) ⟨b, 3, none⟩ x3) ⟨b, 4, none⟩ x4) ⟨b, 5, none⟩ x5).cell? ⟨b, 1, none⟩ = some x1 := by
  rw [World.cell?_setCell_other _ _ _ _ (by simp), World.cell?_setCell_other _ _ _ _ (by simp), World.cell?_setCell_other _ _ _ _ (by simp), World.cell?_setCell_other _ _ _ _ (by simp)]
  exact World.cell?_setCell_same _ _ x1 ((World.cell?_setCell_other _ _ _ _ (by simp)).trans h)
theorem set6_2 {W : World} {b : Nat} (u : Value) {x0 x1 x2 x3 x4 x5 : Value} (h : W.cell? ⟨b, 2, none⟩ = some u) : (World.setCell (World.setCell (World.setCell (World.setCell (World.setCell (World.setCell W ⟨b, 0, none⟩ x0) ⟨b, 1, none⟩ x1) ⟨b, 2, none⟩ x2) ⟨b, 3, none⟩ x3) ⟨b, 4, none⟩ x4) ⟨b, 5, none⟩ x5).cell? ⟨b, 2, none⟩ = some x2 := by
  rw [World.cell?_setCell_other _ _ _ _ (by simp), World.cell?_setCell_other _ _ _ _ (by simp), World.cell?_setCell_other _ _ _ _ (by simp)]
  exact World.cell?_setCell_same _ _ x2 ((World.cell?_setCell_other _ _ _ _ (by simp)).trans ((World.cell?_setCell_other _ _ _ _ (by simp)).trans h))
theorem set6_3 {W : World} {b : Nat} (u : Value) {x0 x1 x2 x3 x4 x5 : Value} (h : W.cell? ⟨b, 3, none⟩ = some u) : (World.setCell (World.setCell (World.setCell (World.setCell (World.setCell (World.setCell W ⟨b, 0, none⟩ x0) ⟨b, 1, none⟩ x1) ⟨b, 2, none⟩ x2) ⟨b, 3, none⟩ x3) ⟨b, 4, none⟩ x4) ⟨b, 5, none⟩ x5).cell? ⟨b, 3, none⟩ = some x3 := by
  rw [World.cell?_setCell_other _ _ _ _ (by simp), World.cell?_setCell_other _ _ _ _ (by simp)]
  exact World.cell?_setCell_same _ _ x3 ((World.cell?_setCell_other _ _ _ _ (by simp)).trans ((World.cell?_setCell_other _ _ _ _ (by simp)).trans ((World.cell?_setCell_other _ _ _ _ (by simp)).trans h)))
theorem set6_4 {W : World} {b : Nat} (u : Value) {x0 x1 x2 x3 x4 x5 : Value} (h : W.cell? ⟨b, 4, none⟩ = some u) : (World.setCell (World.setCell (World.setCell (World.setCell (World.setCell (World.setCell W ⟨b, 0, none⟩ x0) ⟨b, 1, none⟩ x1) ⟨b, 2, none⟩ x2) ⟨b, 3, none⟩ x3) ⟨b, 4, none⟩ x4) ⟨b, 5, none⟩ x5).cell? ⟨b, 4, none⟩ = some x4 := by
  rw [World.cell?_setCell_other _ _ _ _ (by simp)]
  exact World.cell?_setCell_same _ _ x4 ((World.cell?_setCell_other _ _ _ _ (by simp)).trans ((World.cell?_setCell_other _ _ _ _ (by simp)).trans ((World.cell?_setCell_other _ _ _ _ (by simp)).trans ((World.cell?_setCell_other _ _ _ _ (by simp)).trans h))))
theorem set6_5 {W : World} {b : Nat} (u : Value) {x0 x1 x2 x3 x4 x5 : Value} (h : W.cell? ⟨b, 5, none⟩ = some u) : (World.setCell (World.setCell (World.setCell (World.setCell (World.setCell (World.setCell W ⟨b, 0, none⟩ x0) ⟨b, 1, none⟩ x1) ⟨b, 2, none⟩ x2) ⟨b, 3, none⟩ x3) ⟨b, 4, none⟩ x4) ⟨b, 5, none⟩ x5).cell? ⟨b, 5, none⟩ = some x5 := by
  exact World.cell?_setCell_same _ _ x5 ((World.cell?_setCell_other _ _ _ _ (by simp)).trans ((World.cell?_setCell_other _ _ _ _ (by simp)).trans ((World.cell?_setCell_other _ _ _ _ (by simp)).trans ((World.cell?_setCell_other _ _ _ _ (by simp)).trans ((World.cell?_setCell_other _ _ _ _ (by simp)).trans h)))))
theorem keep_four {W : World} {a : Addr} {v : Value} {b : Nat} {x0 x1 x2 x3 : Value} (h : W.cell? a = some v) (hl : a.block ≠ b) : (World.setCell (World.setCell (World.setCell (World.setCell W ⟨b, 0, none⟩ x0) ⟨b, 1, none⟩ x1) ⟨b, 2, none⟩ x2) ⟨b, 3, none⟩ x3).cell? a = some v := (keep_set _ (keep_set _ (keep_set _ (keep_set _ h hl) hl) hl) hl)
theorem bl_four {w W : World} {b : Nat} {x0 x1 x2 x3 : Value} (h : Below w.heap.size w W) (hl : w.heap.size ≤ b) : Below w.heap.size w (World.setCell (World.setCell (World.setCell (World.setCell W ⟨b, 0, none⟩ x0) ⟨b, 1, none⟩ x1) ⟨b, 2, none⟩ x2) ⟨b, 3, none⟩ x3) := (bl_set _ hl (bl_set _ hl (bl_set _ hl (bl_set _ hl h))))
theorem keep_six {W : World} {a : Addr} {v : Value} {b : Nat} {x0 x1 x2 x3 x4 x5 : Value} (h : W.cell? a = some v) (hl : a.block ≠ b) : (World.setCell (World.setCell (World.setCell (World.setCell (World.setCell (World.setCell W ⟨b, 0, none⟩ x0) ⟨b, 1, none⟩ x1) ⟨b, 2, none⟩ x2) ⟨b, 3, none⟩ x3) ⟨b, 4, none⟩ x4) ⟨b, 5, none⟩ x5).cell? a = some v := (keep_set _ (keep_set _ (keep_set _ (keep_set _ (keep_set _ (keep_set _ h hl) hl) hl) hl) hl) hl)
theorem bl_six {w W : World} {b : Nat} {x0 x1 x2 x3 x4 x5 : Value} (h : Below w.heap.size w W) (hl : w.heap.size ≤ b) : Below w.heap.size w (World.setCell (World.setCell (World.setCell (World.setCell (World.setCell (World.setCell W ⟨b, 0, none⟩ x0) ⟨b, 1, none⟩ x1) ⟨b, 2, none⟩ x2) ⟨b, 3, none⟩ x3) ⟨b, 4, none⟩ x4) ⟨b, 5, none⟩ x5) := (bl_set _ hl (bl_set _ hl (bl_set _ hl (bl_set _ hl (bl_set _ hl (bl_set _ hl h))))))
/-- a new block behind its making, behind a draw, behind a call; its cells -/
theorem blk_top {W : World} {o : Obj} {A : Nat} (h : W.heap.size = A) : (W.alloc o).heap[A]? = some o := by subst h; exact heap_alloc_new W o
theorem blk_drew {W : World} {o : Obj} {A : Nat} (h : W.heap[A]? = some o) : W.drew.heap[A]? = some o := h
theorem blk_lt {W : World} {o : Obj} {A : Nat} (h : W.heap[A]? = some o) : A < W.heap.size := by
  rcases Nat.lt_or_ge A W.heap.size with h' | h'
  · exact h'
  · simp [Array.getElem?_eq_none h'] at h
theorem blk_keep {W w1 : World} {o : Obj} {A : Nat} (hb : Below W.heap.size W w1) (h : W.heap[A]? = some o) : w1.heap[A]? = some o := (hb.block A (blk_lt h)).trans h
theorem blk_cell {W : World} {vs : Array Value} {T : TypeId} {A : Nat} (h : W.heap[A]? = some (.cells vs T (0, 0))) {j : Nat} {v : Value} (hv : vs[j]? = some v) : W.cell? ⟨A, j, none⟩ = some v := by simp [World.cell?, h, hv]
theorem blk_free {W : World} {vs : Array Value} {T : TypeId} {A : Nat} (h : W.heap[A]? = some (.cells vs T (0, 0))) (j : Nat) : W.frozen? ⟨A, j, none⟩ = false := by simp [World.frozen?, h]
end Go.Proofs.Ytncjoipckkkmjaa
