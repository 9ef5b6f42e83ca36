/- SortKit: the walks. No statement of the seat is proved here. -/
import Derived.Test.YtohbmlhaaagfhaaSortP
import Derived.Test.YtohbmlhaaagfhaaKit
import Derived.Test.YtohbmlhaaagfhaaWWords
namespace Go.Proofs.Ytohbmlhaaagfhaa
open Go.RowKit Go.Sort Go.Proofs.YtohbmlhaaagfhaaW.PrintWords
set_option linter.unusedVariables false
set_option linter.unusedSimpArgs false
def enc31 : F31 → Value := fun x => .int .i64 (x.val : Int)
set_option maxHeartbeats 1600000 in
theorem closure_any (x y : F31) (W : World) : Calls Try.prog 46 #[.int .i64 (x.val : Int), .int .i64 (y.val : Int)] W fun e w' => e = .returned (.int .i64 (cfK x y)) ∧ ∃ q, w' = W.drewN q := by
  have hx := x.isLt
  have hy := y.isLt
  have e1 : wrap64 ((y.val : Int) - x.val) = (y.val : Int) - x.val := by unfold wrap64; omega
  have e2 : wrap64 ((x.val : Int) - y.val) = (x.val : Int) - y.val := by unfold wrap64; omega
  unfold cfK
  generalize x.val = a at *
  generalize y.val = b at *
  cases c : (decide (a = 0) != decide (b = 0))
  · have c2 : (((a : Int) == 0) != ((b : Int) == 0)) = false := by
      rw [← c]; congr 1 <;> (rw [Bool.eq_iff_iff]; simp)
    have c3 : ((a == 0) != (b == 0)) = false := by
      rw [← c]; congr 1 <;> (rw [Bool.eq_iff_iff]; simp)
    have c4 : (decide ((a : Int) = 0) != decide ((b : Int) = 0)) = false := by
      rw [← c]; congr 1 <;> (rw [Bool.eq_iff_iff]; simp)
    go_enter Try.func46, Try.ntmps46
    go_wp2_with (first | (go_quiet (fail)) | fail)
    all_goals first
      | (exfalso; rename_i h_ _; revert h_; simp only [bne] at c2; rw [c2]; simp; done)
      | (exfalso; rename_i h_; revert h_; simp only [bne] at c2; rw [c2]; simp; done)
      | (go_ret; exact ⟨by first | rfl | simp | simp_all, ⟨0, rfl⟩⟩)
  · have c2 : (((a : Int) == 0) != ((b : Int) == 0)) = true := by
      rw [← c]; congr 1 <;> (rw [Bool.eq_iff_iff]; simp)
    have c3 : ((a == 0) != (b == 0)) = true := by
      rw [← c]; congr 1 <;> (rw [Bool.eq_iff_iff]; simp)
    have c4 : (decide ((a : Int) = 0) != decide ((b : Int) = 0)) = true := by
      rw [← c]; congr 1 <;> (rw [Bool.eq_iff_iff]; simp)
    go_enter Try.func46, Try.ntmps46
    go_wp2_with (first | (go_quiet (fail)) | fail)
    all_goals first
      | (exfalso; rename_i h_ _; revert h_; simp only [bne] at c2; rw [c2]; simp; done)
      | (exfalso; rename_i h_; revert h_; simp only [bne] at c2; rw [c2]; simp; done)
      | (go_ret; exact ⟨by first | rfl | simp | simp_all, ⟨0, rfl⟩⟩)
theorem hlen_any (n : Nat) (W : World) (h : n ≤ 12) : Calls Try.prog 64 #[.int .u64 n] W fun e w' => (∃ l : Int, e = .returned (.int .i64 l)) ∧ w' = W :=
  (Try.bits_Len n W (by omega) (by omega)).mono fun _ _ ⟨he, hw⟩ => ⟨⟨_, he⟩, hw⟩
theorem below_putRow {b : Nat} {w W : World} (h : RowKit.Below b w W) {blk : Nat} (hB : b ≤ blk) (d : Array F31) : RowKit.Below b w (putRow enc31 W blk 0 d) := by
  refine ⟨h.os, h.tape, h.output, by have := h.size; simpa using this, fun i hi => ?_⟩
  have := h.block i hi
  rw [← this]
  show (W.heap.modify blk _)[i]? = W.heap[i]?
  rw [Array.getElem?_modify, if_neg (by omega)]
theorem fk_cell (k : Nat → F31) {j : Nat} (h : j < 4) : enc31 ((FK k).toArray[j]!) = .int .i64 (cel (FK k) j) := by
  have hl := FK_len k
  unfold enc31 cel
  rw [getElem!_pos (FK k).toArray j (by simp [hl]; omega), List.getD_eq_getElem?_getD, List.getElem?_eq_getElem (by omega)]
  rfl
theorem sort_any (k : Nat → F31) (B : Nat) (W : World) (h : W.heap[B]? = some (.cells #[.int .i64 (((k 0).val : Int)), .int .i64 (((k 1).val : Int)), .int .i64 (((k 2).val : Int)), .int .i64 (((k 3).val : Int))] 28 (0, 0))) :
    Calls Try.prog 45 #[.slice (some ⟨B, 0, none⟩) 4 4, .func (.func 46) #[] #[]] W fun e w' => e = .returned (.tuple #[]) ∧
      (∀ j, j < 4 → w'.cell? ⟨B, j, none⟩ = some (.int .i64 (cel (FK k) j))) ∧ (∀ a, w'.frozen? a = W.frozen? a) ∧ (∀ g j, g ≠ B → w'.cell? ⟨g, j, none⟩ = W.cell? ⟨g, j, none⟩) ∧ ∀ b w, b ≤ B → RowKit.Below b w W → RowKit.Below b w w' := by
  have hH : Holds enc31 W B 0 (kl k).toArray := by
    intro j hj
    have h4 : j < 4 := by simpa [kl] using hj
    rw [Nat.zero_add]
    refine ⟨?_, blk_frozen h j⟩
    rw [blk_cell h j]
    obtain rfl | rfl | rfl | rfl : j = 0 ∨ j = 1 ∨ j = 2 ∨ j = 3 := by omega
    all_goals rfl
  have eg : ∀ args w, (callFunc 46 args).run Try.prog w = .ok (.enter 46 args) w := enters_of Try.func46 (by kernel_rfl) rfl
  have hS := Any.slices_SortFunc_small_sorted Try.laysSlF6_f45 enc31 (fun _ => rfl) cfK swoK 46 #[] B 0 4 (kl k).toArray W eg (fun _ _ _ _ x y => closure_any x y _) hH (by show 4 ≤ 12; omega) hlen_any
  refine (show Calls Try.prog 45 #[.slice (some ⟨B, 0, none⟩) 4 4, .func (.func 46) #[] #[]] W _ from hS).mono ?_
  rintro e w' ⟨he, d', n, hp, hs, rfl⟩
  obtain rfl := sort_unique k d' hp hs
  have hsz : (FK k).toArray.size = (kl k).toArray.size := by simp [FK_len k]; rfl
  refine ⟨he, fun j hj => ?_, fun a => ?_, fun g j ne => ?_, fun b w hb hbl => ?_⟩
  · rw [← fk_cell k hj]
    have := cell?_putRow enc31 W B 0 (kl k).toArray (FK k).toArray hH hsz j (by simp [FK_len k]; omega)
    rw [Nat.zero_add] at this
    exact this
  · exact frozen?_putRow enc31 W B 0 _ a
  · exact cell?_putRow_other enc31 W B 0 _ _ (Or.inl ne)
  · exact bl_drewN n (below_putRow hbl hb _)
def kfOf (k : Nat → Int) : Nat → F31 := fun i => ⟨(k i).toNat % 31, Nat.mod_lt _ (by omega)⟩
theorem kf_val {k : Nat → Int} (c : isKitB k = true) : ∀ i, i < 4 → ((kfOf k i).val : Int) = k i := by
  intro i hi
  have := kit_bounds c i hi
  unfold kfOf
  show (((k i).toNat % 31 : Nat) : Int) = k i
  omega
def resK (k : Nat → Int) : (Nat → Int) × Bool := bif isKitB k then (cel (Lm (kfOf k) 31 0), true) else (fun _ => 0, false)
theorem kit_cells {k : Nat → Int} (c : isKitB k = true) : A4 k = A4 (fun i => ((kfOf k i).val : Int)) := by
  show Value.agg #[.int .i64 (k 0), .int .i64 (k 1), .int .i64 (k 2), .int .i64 (k 3)] = .agg #[.int .i64 (((kfOf k 0).val : Int)), .int .i64 (((kfOf k 1).val : Int)), .int .i64 (((kfOf k 2).val : Int)), .int .i64 (((kfOf k 3).val : Int))]
  rw [kf_val c 0 (by omega), kf_val c 1 (by omega), kf_val c 2 (by omega), kf_val c 3 (by omega)]
set_option maxHeartbeats 3200000 in
theorem implSort_any (k : Nat → Int) (w : World) : Calls Try.prog 25 #[A4 k] w fun e w' => e = .returned (.tuple #[A4 (resK k).1, .bool (resK k).2]) ∧ RowKit.Below w.heap.size w w' := by
  have hk := isKit_any k
  cases c : isKitB k
  · have er : resK k = (fun _ => 0, false) := by unfold resK; rw [c]; rfl
    rw [c] at hk
    rw [er]
    go_enter Try.func25, Try.ntmps25
    go_wp2_with fail
    refine (hk _).mono ?_
    rintro e w1 ⟨rfl, hb⟩
    have HR := Aside0.mk (show w1.heap[w.heap.size + 1]? = some (.cells #[.int .i64 0, .int .i64 0, .int .i64 0, .int .i64 0] 28 (0, 0)) by
      have hh := heap_alloc_new (w.alloc (.cells #[.int .i64 (k 0), .int .i64 (k 1), .int .i64 (k 2), .int .i64 (k 3)] 28)) (.cells #[.int .i64 0, .int .i64 0, .int .i64 0, .int .i64 0] 28)
      rw [World.size_alloc] at hh
      exact blk_below hh hb)
    have HB := Aside0.mk (below_chain (below_alloc (below_alloc (RowKit.Below.refl w.heap.size w) _) _) hb)
    clear hb hk
    have r0 := (blk_cell HR.out 0).trans rfl
    have rf0 := blk_frozen HR.out 0
    have r1 := (blk_cell HR.out 1).trans rfl
    have rf1 := blk_frozen HR.out 1
    have r2 := (blk_cell HR.out 2).trans rfl
    have rf2 := blk_frozen HR.out 2
    have r3 := (blk_cell HR.out 3).trans rfl
    have rf3 := blk_frozen HR.out 3
    go_wp2_with fail
    refine bodyPost_ret (v := .tuple #[A4 (fun _ => 0), .bool false]) (by simp [results, Try.results25, go_sem, *]) rfl ⟨rfl, ?_⟩
    exact bl_set _ (by simp) (bl_set _ (by simp) (bl_set _ (by simp) (bl_set _ (by simp) HB.out)))
  · have er : resK k = (cel (Lm (kfOf k) 31 0), true) := by unfold resK; rw [c]; rfl
    rw [c] at hk
    rw [er]
    rw [kit_cells c] at hk ⊢
    have hS := sort_any (kfOf k)
    clear c er
    generalize kfOf k = kf at *
    go_enter Try.func25, Try.ntmps25
    go_wp2_with fail
    refine (hk _).mono ?_
    rintro e w1 ⟨rfl, hb⟩
    have HG := Aside0.mk (show w1.heap[w.heap.size]? = some (.cells #[.int .i64 (((kf 0).val : Int)), .int .i64 (((kf 1).val : Int)), .int .i64 (((kf 2).val : Int)), .int .i64 (((kf 3).val : Int))] 28 (0, 0)) from blk_below (blk_alloc (heap_alloc_new w _) _) hb)
    have HR := Aside0.mk (show w1.heap[w.heap.size + 1]? = some (.cells #[.int .i64 0, .int .i64 0, .int .i64 0, .int .i64 0] 28 (0, 0)) by
      have hh := heap_alloc_new (w.alloc (.cells #[.int .i64 (((kf 0).val : Int)), .int .i64 (((kf 1).val : Int)), .int .i64 (((kf 2).val : Int)), .int .i64 (((kf 3).val : Int))] 28)) (.cells #[.int .i64 0, .int .i64 0, .int .i64 0, .int .i64 0] 28)
      rw [World.size_alloc] at hh
      exact blk_below hh hb)
    have HB := Aside0.mk (below_chain (below_alloc (below_alloc (RowKit.Below.refl w.heap.size w) _) _) hb)
    clear hb hk
    go_wp2_with fail
    refine (hS w.heap.size _ HG.out).mono ?_
    rintro e w2 ⟨rfl, hc, hf, ho, hbl⟩
    have HB2 := Aside0.mk (hbl _ _ (Nat.le_refl _) HB.out)
    have k0 := hc 0 (by omega)
    have k1 := hc 1 (by omega)
    have k2 := hc 2 (by omega)
    have k3 := hc 3 (by omega)
    rw [cel_FK] at k0 k1 k2 k3
    have r0 : w2.cell? ⟨w.heap.size + 1, 0, none⟩ = some (.int .i64 0) := (ho _ 0 (by omega)).trans ((blk_cell HR.out 0).trans rfl)
    have rf0 : w2.frozen? ⟨w.heap.size + 1, 0, none⟩ = false := (hf _).trans (blk_frozen HR.out 0)
    have r1 : w2.cell? ⟨w.heap.size + 1, 1, none⟩ = some (.int .i64 0) := (ho _ 1 (by omega)).trans ((blk_cell HR.out 1).trans rfl)
    have rf1 : w2.frozen? ⟨w.heap.size + 1, 1, none⟩ = false := (hf _).trans (blk_frozen HR.out 1)
    have r2 : w2.cell? ⟨w.heap.size + 1, 2, none⟩ = some (.int .i64 0) := (ho _ 2 (by omega)).trans ((blk_cell HR.out 2).trans rfl)
    have rf2 : w2.frozen? ⟨w.heap.size + 1, 2, none⟩ = false := (hf _).trans (blk_frozen HR.out 2)
    have r3 : w2.cell? ⟨w.heap.size + 1, 3, none⟩ = some (.int .i64 0) := (ho _ 3 (by omega)).trans ((blk_cell HR.out 3).trans rfl)
    have rf3 : w2.frozen? ⟨w.heap.size + 1, 3, none⟩ = false := (hf _).trans (blk_frozen HR.out 3)
    clear hc hf ho hbl hS HG HR HB
    go_wp2_with fail
    refine bodyPost_ret (v := .tuple #[A4 (cel (Lm kf 31 0)), .bool true]) (by simp [results, Try.results25, go_sem, *]) rfl ⟨rfl, ?_⟩
    exact bl_set _ (by simp) (bl_set _ (by simp) (bl_set _ (by simp) (bl_set _ (by simp) HB2.out)))
/-- what holds in the reference's loops: B: the kit, R: the result, O: what is filled -/
structure SI (w wr : World) (B R O : Nat) (kf : Nat → F31) (L : List F31) : Prop where
  hk : wr.heap[B]? = some (.cells #[.int .i64 (((kf 0).val : Int)), .int .i64 (((kf 1).val : Int)), .int .i64 (((kf 2).val : Int)), .int .i64 (((kf 3).val : Int))] 28 (0, 0))
  hr : wr.heap[R]? = some (.cells #[.int .i64 0, .int .i64 0, .int .i64 0, .int .i64 0] 28 (0, 0))
  ho : wr.heap[O]? = some (.cells #[.int .i64 (cel L 0), .int .i64 (cel L 1), .int .i64 (cel L 2), .int .i64 (cel L 3)] 28 (0, 0))
  hb : RowKit.Below w.heap.size w wr
  n1 : B ≠ O
  n2 : R ≠ O
  n3 : w.heap.size ≤ O
theorem SI.put {w wr : World} {B R O : Nat} {kf : Nat → F31} {L : List F31} (h : SI w wr B R O kf L) {n : Nat} (hn : L.length = n) (h4 : n < 4) (x : F31) : SI w (wr.setCell ⟨O, n, none⟩ (.int .i64 (x.val : Int))) B R O kf (L ++ [x]) := by
  refine ⟨blk_far h.hk h.n1 _, blk_far h.hr h.n2 _, ?_, h.hb.setCell h.n3 _, h.n1, h.n2, h.n3⟩
  rw [blk_set h.ho n]
  obtain rfl | rfl | rfl | rfl : n = 0 ∨ n = 1 ∨ n = 2 ∨ n = 3 := by omega
  all_goals simp [cel_put, hn]
end Go.Proofs.Ytohbmlhaaagfhaa
