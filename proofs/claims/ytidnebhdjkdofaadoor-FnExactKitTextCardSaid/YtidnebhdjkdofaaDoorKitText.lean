/- KitText (Door seat): the walks. No statement of the seat is proved here. -/
import Derived.Test.YtidnebhdjkdofaaDoorKitD
import Derived.Test.YtidnebhdjkdofaaDoorWords
namespace Go.Proofs.YtidnebhdjkdofaaDoor
open Go.RowKit Go.Proofs.YtidnebhdjkdofaaDoorW.PrintWords Go.Proofs.YtidnebhdjkdofaaDoorW.PrintLast
set_option linter.unusedVariables false
set_option linter.unusedSimpArgs false
def ktB (k : Nat → Int) : ByteArray := bif isKitB k then kitB k else ⟨#[]⟩
set_option maxHeartbeats 1600000 in
theorem implKitText_any (k : Nat → Int) (w : World) (ht : Tab w) : Calls Tryd.prog 39 #[A4 k] w fun e w' => e = .returned (.tuple #[.string (ktB k), .bool (isKitB k)]) ∧ Below w.heap.size w w' := by
  have hk := isKit_any k
  cases c : isKitB k
  · have ef : ktB k = ⟨#[]⟩ := by unfold ktB; rw [c]; rfl
    rw [c] at hk
    clear ht
    go_enter Tryd.func39, Tryd.ntmps39
    go_wp2_with (first | (go_at_call 66; refine (hk _).mono ?_; rintro e w1 ⟨rfl, hb⟩) | fail)
    go_ret2
    exact ⟨by rw [ef]; rfl, below_chain (below_alloc (Below.refl _ _) _) hb⟩
  · have ef : ktB k = kitB k := by unfold ktB; rw [c]; rfl
    have hn := numbersText_any k c
    rw [c] at hk
    have HT := Aside0.mk ht
    clear ht
    go_enter Tryd.func39, Tryd.ntmps39
    go_wp2_with (first | (go_at_call 66; refine (hk _).mono ?_; rintro e w1 ⟨rfl, hb⟩; have HB := Aside0.mk (below_chain (below_alloc (Below.refl w.heap.size w) _) hb); have HG := Aside0.mk (show w1.heap[w.heap.size]? = some (.cells #[.int .i64 (k 0), .int .i64 (k 1), .int .i64 (k 2), .int .i64 (k 3)] 49 (0, 0)) from (hb.block w.heap.size (by simp)).trans (heap_alloc_new w _)); clear hb) | (go_at_call 67; refine (hn w.heap.size _ HG.out (tab_keep HT.out HB.out)).mono ?_; rintro e w2 ⟨rfl, hb2⟩) | fail)
    go_ret2
    exact ⟨by rw [ef]; rfl, below_chain HB.out hb2⟩
set_option maxHeartbeats 1600000 in
theorem specKitText_any (k : Nat → Int) (w : World) : Calls Tryd.prog 37 #[A4 k] w fun e w' => e = .returned (.tuple #[.string (ktB k), .bool (isKitB k)]) ∧ Below w.heap.size w w' := by
  have hk := l2Kit_any k
  cases c : isKitB k
  · have ef : ktB k = ⟨#[]⟩ := by unfold ktB; rw [c]; rfl
    rw [c] at hk
    go_enter Tryd.func37, Tryd.ntmps37
    go_wp2_with (first | (go_at_call 63; refine (hk _).mono ?_; rintro e w1 ⟨rfl, hb⟩) | fail)
    go_ret2
    exact ⟨by rw [ef]; rfl, below_chain (below_alloc (Below.refl _ _) _) hb⟩
  · have ef : ktB k = kitB k := by unfold ktB; rw [c]; rfl
    have hn := l2Text_any k c
    rw [c] at hk
    go_enter Tryd.func37, Tryd.ntmps37
    go_wp2_with (first | (go_at_call 63; refine (hk _).mono ?_; rintro e w1 ⟨rfl, hb⟩; have HB := Aside0.mk (below_chain (below_alloc (Below.refl w.heap.size w) _) hb); have HG := Aside0.mk (show w1.heap[w.heap.size]? = some (.cells #[.int .i64 (k 0), .int .i64 (k 1), .int .i64 (k 2), .int .i64 (k 3)] 49 (0, 0)) from (hb.block w.heap.size (by simp)).trans (heap_alloc_new w _)); clear hb; have a0 := (blk_cell HG.out 0).trans rfl; have a1 := (blk_cell HG.out 1).trans rfl; have a2 := (blk_cell HG.out 2).trans rfl; have a3 := (blk_cell HG.out 3).trans rfl) | (go_at_call 64; refine (hn _).mono ?_; rintro e w2 ⟨rfl, hb2⟩) | fail)
    go_ret2
    exact ⟨by rw [ef]; rfl, below_chain HB.out hb2⟩
set_option maxHeartbeats 1600000 in
theorem lawKitText_any (k : Nat → Int) (w : World) (ht : Tab w) : Calls Tryd.prog 10 #[A4 k] w fun e w' => e = .returned (.bool true) ∧ Below w.heap.size w w' := by
  have hK := toKit_any k
  have hS := specKitText_any k
  have hI := implKitText_any k
  generalize ktB k = r at hS hI
  generalize isKitB k = o at hS hI
  have HT := Aside0.mk ht
  clear ht
  go_enter Tryd.func10, Tryd.ntmps10
  go_wp2_with fail
  refine (hK _).mono ?_
  rintro e w1 ⟨rfl, hb⟩
  have HB1 := Aside0.mk (below_chain (below_alloc (Below.refl w.heap.size w) _) hb)
  have HG1 := Aside0.mk (show w1.heap[w.heap.size]? = some (.cells #[.int .i64 (k 0), .int .i64 (k 1), .int .i64 (k 2), .int .i64 (k 3)] 47 (0, 0)) from (hb.block w.heap.size (by simp)).trans (heap_alloc_new w _))
  clear hb
  go_wp2_with fail
  refine (hS _).mono ?_
  rintro e w2 ⟨rfl, hb⟩
  have HB2 := Aside0.mk (below_chain HB1.out hb)
  have HG2 := Aside0.mk ((hb.block w.heap.size (blk_lt HG1.out)).trans HG1.out)
  clear hb HB1 HG1
  have a0 := (blk_cell HG2.out 0).trans rfl
  have a1 := (blk_cell HG2.out 1).trans rfl
  have a2 := (blk_cell HG2.out 2).trans rfl
  have a3 := (blk_cell HG2.out 3).trans rfl
  go_wp2_with fail
  refine (hK _).mono ?_
  rintro e w3 ⟨rfl, hb⟩
  clear a0 a1 a2 a3
  have HB3 := Aside0.mk (below_chain HB2.out hb)
  clear hb HB2 HG2
  go_wp2_with fail
  refine (hI _ (tab_keep HT.out HB3.out)).mono ?_
  rintro e w4 ⟨rfl, hb⟩
  have HB4 := Aside0.mk (below_chain HB3.out hb)
  clear hb HB3
  go_wp2_with fail
  go_ret
  exact ⟨rfl, HB4.out⟩
end Go.Proofs.YtidnebhdjkdofaaDoor
