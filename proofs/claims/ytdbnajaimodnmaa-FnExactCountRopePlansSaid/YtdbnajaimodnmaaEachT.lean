/- Rope plans: the program's count of all that tell a time. No statement of the seat is proved here. -/
import Derived.Test.YtdbnajaimodnmaaEach
import Derived.Test.YtdbnajaimodnmaaEachL
namespace Go.Proofs.Ytdbnajaimodnmaa
open Go.RowKit Go.Proofs.YtdbnajaimodnmaaW.PrintWords Go.Proofs.YtdbnajaimodnmaaW.PrintLast Go.Proofs.Ytdbnajaimodnmaa.QPl
set_option linter.unusedVariables false
set_option linter.unusedSimpArgs false
theorem preS_zero (j : Nat) : preS (fun _ => 0) j = 0 := by
  induction j with
  | zero => rfl
  | succ j ih => rw [preS_succ, ih]
theorem KB.below {w W w' : World} {bm : Nat} (h : Below w.heap.size w W) (k : KB W w' bm) (hb : w.heap.size ≤ bm) : Below w.heap.size w w' := by
  have q := (h.mono (Nat.zero_le _)).trans k.2
  exact ⟨q.os, q.tape, q.output, Nat.le_trans h.size k.1.1, fun i hi => (k.1.2 i (Nat.lt_of_lt_of_le hi h.size) (by omega) (by simp)).trans (h.block i hi)⟩
theorem each_any (T : Int) (bt bm : Nat) (hne : bt ≠ bm) : ∀ (n : Nat) (f : Nat → Int) (a m : Int) (l : List S36) (b : Nat) (v : Value) (w : World),
    Ends n f → isRopesB f = true → 0 ≤ a → a + 4000 * (n : Int) ≤ 100000 → 0 ≤ m → m + (cntE T n f a : Int) ≤ 1000000 → l.length + n ≤ 50 →
    (v = .slice none 0 0 ∧ l = [] ∨ 0 < l.length) → Kd.R k36 36 w b (fun _ => True) v l →
    w.cell? ⟨bt, 0, none⟩ = some (.int .i64 T) → w.heap[bm]? = some (.cells #[.int .i64 m] 3 (0, 0)) →
    Calls Try.prog 48 #[A6 f, .int .i64 a, v, Cl bt bm] w fun e w' => e = .returned (.tuple #[]) ∧ KB w w' bm ∧ w'.heap[bm]? = some (.cells #[.int .i64 (m + (cntE T n f a : Int))] 3 (0, 0))
  | 0, f, a, m, l, b, v, w, he, hf, h0, h1, hm, hc, hl, hv, hr, ht, hb => by
    have := each_walk T bt bm f a m (fun _ => 0) l b v w hf ⟨h0, by omega⟩ hm (by rw [preS_zero]; exact (by simpa [cntE] using hc)) (by omega) hv hr ht hne hb (fun _ _ _ => rfl) (fun c hc hok => absurd hok (by rw [he c hc]; simp))
    rw [preS_zero] at this
    simpa [cntE] using this
  | n + 1, f, a, m, l, b, v, w, he, hf, h0, h1, hm, hc, hl, hv, hr, ht, hb => by
    have ec : (cntE T (n + 1) f a : Int) = (one T a : Int) + (preS (fun c => if okC f c = true then cntE T n (nxC f c) (a + toldF (ltC f c)) else 0) 27 : Int) := by rw [cntE]; omega
    have := each_walk T bt bm f a m (fun c => if okC f c = true then cntE T n (nxC f c) (a + toldF (ltC f c)) else 0) l b v w hf ⟨h0, by omega⟩ hm (by omega) (by omega) hv hr ht hne hb (fun c hc hok => by simp [hok])
      (fun c hc hok m' l' b' v' w' hm' hc' hl' hr' ht' hb' => by
        rw [if_pos hok] at hc' ⊢
        have hd := Rope.told (rope_of (ltC_rope hf c))
        exact each_any T bt bm hne n _ _ m' l' b' v' w' (he c hc hok) (nxC_rope hf hok) (by omega) (by omega) hm' hc' (by omega) (.inr (by omega)) hr' ht' hb')
    rw [ec]
    rw [Int.add_assoc] at this
    exact this
set_option maxRecDepth 100000 in
theorem countPlans_any (f : Nat → Int) (T : Int) (w : World) :
    Calls Try.prog 28 #[A6 f, .int .i64 T] w fun e w' => e = .returned (.tuple #[.int .i64 (if isRopesB f = true then (cntE T 3 f 0 : Int) else 0), .bool (isRopesB f)]) ∧ Below w.heap.size w w' := by
  obtain ⟨C, hC⟩ : ∃ C : Nat, C = cntE T 3 f 0 := ⟨_, rfl⟩
  obtain ⟨N, hN⟩ : ∃ N : Int, N = if isRopesB f = true then (C : Int) else 0 := ⟨_, rfl⟩
  rw [← hC, ← hN]
  have HC := Aside0.mk hC
  have HN := Aside0.mk hN
  clear hC hN
  unfold A6
  go_enter Try.func28, Try.ntmps28
  go_wp2_with fail
  refine (isRopes_any f _).mono ?_
  rintro e w1 ⟨rfl, hb1⟩
  have hB1 : Below w.heap.size w w1 := below_chain (bl_alloc _ (by simp) (bl_alloc _ (Nat.le_refl _) (Below.refl _ _))) hb1
  have hbx := blk_below (blk_alloc (heap_alloc_new w (.cells #[.int .i64 (f 0), .int .i64 (f 1), .int .i64 (f 2), .int .i64 (f 3), .int .i64 (f 4), .int .i64 (f 5)] 41 (0, 0))) (.cells #[.int .i64 T] 3 (0, 0))) hb1
  have hbt := blk_below (heap_alloc_new (w.alloc (.cells #[.int .i64 (f 0), .int .i64 (f 1), .int .i64 (f 2), .int .i64 (f 3), .int .i64 (f 4), .int .i64 (f 5)] 41 (0, 0))) (.cells #[.int .i64 T] 3 (0, 0))) hb1
  have hz := hb1.size
  have HB1 := Aside0.mk hB1
  have HBT := Aside0.mk hbt
  clear hb1 hB1 hbt
  cases q : isRopesB f
  · have Q := Aside0.mk q
    clear q
    go_wp2_with fail
    go_ret2
    refine ⟨?_, HB1.out⟩
    have e := HN.out
    rw [if_neg (by rw [Q.out]; simp)] at e
    rw [e]
    first | rfl | (rw [Q.out]; rfl)
  · have Q := Aside0.mk q
    clear q
    have y0 : w1.cell? ⟨w.heap.size, 0, none⟩ = some (.int .i64 (f 0)) := (blk_cell hbx 0).trans rfl
    have y1 : w1.cell? ⟨w.heap.size, 1, none⟩ = some (.int .i64 (f 1)) := (blk_cell hbx 1).trans rfl
    have y2 : w1.cell? ⟨w.heap.size, 2, none⟩ = some (.int .i64 (f 2)) := (blk_cell hbx 2).trans rfl
    have y3 : w1.cell? ⟨w.heap.size, 3, none⟩ = some (.int .i64 (f 3)) := (blk_cell hbx 3).trans rfl
    have y4 : w1.cell? ⟨w.heap.size, 4, none⟩ = some (.int .i64 (f 4)) := (blk_cell hbx 4).trans rfl
    have y5 : w1.cell? ⟨w.heap.size, 5, none⟩ = some (.int .i64 (f 5)) := (blk_cell hbx 5).trans rfl
    have hlt := blk_lt hbx
    clear hbx
    go_wp2_with fail
    have hcn := Nat.le_trans (cntE_le T 3 f 0) (show 28 ^ 3 ≤ 1000000 by decide)
    refine (each_any T (w.heap.size + 1) w1.heap.size (by simp at hz; omega) 3 f 0 0 [] 0 (.slice none 0 0) (w1.alloc (.cells #[.int .i64 0] 3 (0, 0))) (ends3 Q.out) Q.out (Int.le_refl 0) (by omega) (Int.le_refl 0) (by omega) (by simp) (.inl ⟨rfl, rfl⟩) (Kd.R_nil _ _ _ _ _) (by
      have h := blk_alloc HBT.out (.cells #[.int .i64 0] 3 (0, 0))
      have e : (w.alloc (.cells #[.int .i64 (f 0), .int .i64 (f 1), .int .i64 (f 2), .int .i64 (f 3), .int .i64 (f 4), .int .i64 (f 5)] 41 (0, 0))).heap.size = w.heap.size + 1 := by simp
      rw [e] at h
      exact (blk_cell h 0).trans rfl) (heap_alloc_new w1 _)).mono ?_
    rintro e w2 ⟨rfl, hk, hm⟩
    have c0 : w2.cell? ⟨w1.heap.size, 0, none⟩ = some (.int .i64 (C : Int)) := by
      rw [← HC.out, Int.zero_add] at hm
      exact (blk_cell hm 0).trans rfl
    have hfin : Below w.heap.size w w2 := KB.below (bl_alloc _ HB1.out.size HB1.out) hk HB1.out.size
    have HF := Aside0.mk hfin
    clear hk hm hfin
    go_wp2_with fail
    go_ret2
    refine ⟨?_, HF.out⟩
    have e := HN.out
    rw [if_pos Q.out] at e
    rw [e]
    first | rfl | (rw [Q.out]; rfl)
end Go.Proofs.Ytdbnajaimodnmaa
