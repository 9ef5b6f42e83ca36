/- Contracts: what the program says of plans that tell a time. No statement of the seat is proved here. -/
import Derived.Test.YtlhodfjdmafapaaTellW
import Derived.Test.YtlhodfjdmafapaaQIm1
namespace Go.Proofs.Ytlhodfjdmafapaa
open Go.RowKit Go.Proofs.YtlhodfjdmafapaaW.PrintWords Go.Proofs.YtlhodfjdmafapaaW.PrintLast Go.Proofs.Ytlhodfjdmafapaa.QIm
set_option linter.unusedVariables false
set_option linter.unusedSimpArgs false
def searchB (k : Nat → Int) (s : Sd) (time : Int) : Bool := (isKitB k && isSandB k (fn4 s)) && (decide (prodOf k ≤ 1000) && inB 0 40 time)
theorem within_f (n lo hi : Int) : impl_within.f n lo hi = some (inB lo hi n) := by
  unfold impl_within.f inB
  by_cases h : lo ≤ n
  · simp [h]
  · simp [h]
theorem search_f (k : Nat → Int) (s : Sd) (time : Int) : impl_isSearched.f (k 0) (k 1) (k 2) (k 3) s.1 s.2.1 s.2.2.1 s.2.2.2 time = some (searchB k s time) := by
  unfold impl_isSearched.f
  rw [show xAreSand.f (k 0) (k 1) (k 2) (k 3) s.1 s.2.1 s.2.2.1 s.2.2.2 = some (isKitB k && isSandB k (fn4 s)) from rfl, show xProduct.f (k 0) (k 1) (k 2) (k 3) = some (prodOf k) from rfl]
  simp only [Option.bind_some, within_f]
  unfold searchB
  cases h1 : (isKitB k && isSandB k (fn4 s))
  · simp
  · by_cases h2 : prodOf k ≤ 1000
    · simp [h2]
    · simp [h2]
theorem search_any (k : Nat → Int) (s : Sd) (time : Int) (b : Bool) (h : searchB k s time = b) (w : World) : Calls Try.prog 72 #[A4 k, A4 (fn4 s), .int .i64 time] w fun e w' => e = .returned (.bool b) ∧ Below w.heap.size w w' :=
  impl_isSearched.calls (k 0) (k 1) (k 2) (k 3) s.1 s.2.1 s.2.2.1 s.2.2.2 time b w (by rw [search_f, h])
theorem search_parts {k : Nat → Int} {s : Sd} {time : Int} (h : searchB k s time = true) : Sand k (fn4 s) ∧ 0 ≤ time ∧ time ≤ 40 := by
  unfold searchB at h
  simp only [Bool.and_eq_true, inB_iff] at h
  exact ⟨sand_of h.1.1 h.1.2, h.2.2.1, h.2.2.2⟩
theorem best_f0 (B : Best) (w : World) : (Instr.field 88 (.agg #[.int .i64 B.sets, .int .i64 B.turns, .int .i64 (B.c 0), .int .i64 (B.c 1), .int .i64 (B.c 2), .int .i64 (B.c 3), .int .i64 (B.c 4), .int .i64 (B.c 5), .int .i64 (B.c 6), .int .i64 (B.c 7), .int .i64 (B.c 8), .int .i64 (B.c 9), .int .i64 (B.c 10), .int .i64 (B.c 11), .int .i64 (B.c 12)]) 0).run Try.prog w = .ok (.int .i64 B.sets) w := by kernel_rfl
theorem best_f1 (B : Best) (w : World) : (Instr.field 88 (.agg #[.int .i64 B.sets, .int .i64 B.turns, .int .i64 (B.c 0), .int .i64 (B.c 1), .int .i64 (B.c 2), .int .i64 (B.c 3), .int .i64 (B.c 4), .int .i64 (B.c 5), .int .i64 (B.c 6), .int .i64 (B.c 7), .int .i64 (B.c 8), .int .i64 (B.c 9), .int .i64 (B.c 10), .int .i64 (B.c 11), .int .i64 (B.c 12)]) 1).run Try.prog w = .ok (.int .i64 B.turns) w := by kernel_rfl
theorem best_f2 (B : Best) (w : World) : (Instr.field 88 (.agg #[.int .i64 B.sets, .int .i64 B.turns, .int .i64 (B.c 0), .int .i64 (B.c 1), .int .i64 (B.c 2), .int .i64 (B.c 3), .int .i64 (B.c 4), .int .i64 (B.c 5), .int .i64 (B.c 6), .int .i64 (B.c 7), .int .i64 (B.c 8), .int .i64 (B.c 9), .int .i64 (B.c 10), .int .i64 (B.c 11), .int .i64 (B.c 12)]) 2).run Try.prog w = .ok (.agg #[.int .i64 (B.c 0), .int .i64 (B.c 1), .int .i64 (B.c 2), .int .i64 (B.c 3), .int .i64 (B.c 4), .int .i64 (B.c 5), .int .i64 (B.c 6), .int .i64 (B.c 7), .int .i64 (B.c 8), .int .i64 (B.c 9), .int .i64 (B.c 10), .int .i64 (B.c 11), .int .i64 (B.c 12)]) w := by kernel_rfl
theorem best_ix (B : Best) (n : Nat) (hn : n < 13) (w : World) : (Instr.index 86 (.agg #[.int .i64 (B.c 0), .int .i64 (B.c 1), .int .i64 (B.c 2), .int .i64 (B.c 3), .int .i64 (B.c 4), .int .i64 (B.c 5), .int .i64 (B.c 6), .int .i64 (B.c 7), .int .i64 (B.c 8), .int .i64 (B.c 9), .int .i64 (B.c 10), .int .i64 (B.c 11), .int .i64 (B.c 12)]) (.int .i64 (n : Int))).run Try.prog w = .ok (.int .i64 (B.c n)) w := by
  obtain rfl | rfl | rfl | rfl | rfl | rfl | rfl | rfl | rfl | rfl | rfl | rfl | rfl : n = 0 ∨ n = 1 ∨ n = 2 ∨ n = 3 ∨ n = 4 ∨ n = 5 ∨ n = 6 ∨ n = 7 ∨ n = 8 ∨ n = 9 ∨ n = 10 ∨ n = 11 ∨ n = 12 := by omega
  all_goals kernel_rfl
set_option maxRecDepth 100000 in
set_option maxHeartbeats 3200000 in
theorem canTell_yes (k : Nat → Int) (s : Sd) (time : Int) (h : searchB k s time = true) (w : World) : Calls Try.prog 41 #[A4 k, A4 (fn4 s), .int .i64 time] w fun e w' => e = .returned (.tuple #[.bool (decide (0 ≤ (tellTo k s time 13).sets)), .bool true]) ∧ Below w.heap.size w w' := by
  obtain ⟨h1, h2, h3⟩ := search_parts h
  have HT := fun W => toTell_any k s time h1 h2 h3 W
  have HH := Aside0.mk h
  obtain ⟨B, hB⟩ : ∃ B, tellTo k s time 13 = B := ⟨_, rfl⟩
  rw [hB] at HT ⊢
  simp only [AB] at HT
  have hf0 := best_f0 B
  have hf1 := best_f1 B
  clear h1 h h2 h3 hB
  go_enter Try.func41, Try.ntmps41
  go_wp2_with fail
  refine (search_any k s time true HH.out _).mono ?_
  rintro e w1 ⟨rfl, hb⟩
  have HK1 := Aside0.mk (blk_below (blk_alloc (heap_alloc_new w (.cells #[.int .i64 (k 0), .int .i64 (k 1), .int .i64 (k 2), .int .i64 (k 3)] 27 (0, 0))) (.cells #[.int .i64 (fn4 s 0), .int .i64 (fn4 s 1), .int .i64 (fn4 s 2), .int .i64 (fn4 s 3)] 22 (0, 0))) hb)
  have HS1 := Aside0.mk (show w1.heap[w.heap.size + 1]? = some (.cells #[.int .i64 (fn4 s 0), .int .i64 (fn4 s 1), .int .i64 (fn4 s 2), .int .i64 (fn4 s 3)] 22 (0, 0)) by
    have := blk_below (heap_alloc_new (w.alloc (.cells #[.int .i64 (k 0), .int .i64 (k 1), .int .i64 (k 2), .int .i64 (k 3)] 27 (0, 0))) _) hb
    simpa using this)
  have HB1 := Aside0.mk (show Below w.heap.size w w1 from below_chain (below_alloc (below_alloc (Below.refl _ _) _) _) hb)
  clear hb
  have q0 : w1.cell? ⟨w.heap.size, 0, none⟩ = some (.int .i64 (k 0)) := (blk_cell HK1.out 0).trans rfl
  have q1 : w1.cell? ⟨w.heap.size, 1, none⟩ = some (.int .i64 (k 1)) := (blk_cell HK1.out 1).trans rfl
  have q2 : w1.cell? ⟨w.heap.size, 2, none⟩ = some (.int .i64 (k 2)) := (blk_cell HK1.out 2).trans rfl
  have q3 : w1.cell? ⟨w.heap.size, 3, none⟩ = some (.int .i64 (k 3)) := (blk_cell HK1.out 3).trans rfl
  have r0 : w1.cell? ⟨w.heap.size + 1, 0, none⟩ = some (.int .i64 (fn4 s 0)) := (blk_cell HS1.out 0).trans rfl
  have r1 : w1.cell? ⟨w.heap.size + 1, 1, none⟩ = some (.int .i64 (fn4 s 1)) := (blk_cell HS1.out 1).trans rfl
  have r2 : w1.cell? ⟨w.heap.size + 1, 2, none⟩ = some (.int .i64 (fn4 s 2)) := (blk_cell HS1.out 2).trans rfl
  have r3 : w1.cell? ⟨w.heap.size + 1, 3, none⟩ = some (.int .i64 (fn4 s 3)) := (blk_cell HS1.out 3).trans rfl
  go_wp2_with fail
  refine (HT _).mono ?_
  rintro e w2 ⟨rfl, hb2⟩
  have HB2 := Aside0.mk (below_chain HB1.out hb2)
  clear hb2 HT
  go_wp2_with fail
  all_goals (go_ret2; exact ⟨by first | rfl | trace_state, HB2.out⟩)
theorem canTell_no (k : Nat → Int) (s : Sd) (time : Int) (h : searchB k s time = false) (w : World) : Calls Try.prog 41 #[A4 k, A4 (fn4 s), .int .i64 time] w fun e w' => e = .returned (.tuple #[.bool false, .bool false]) ∧ Below w.heap.size w w' := by
  have HH := Aside0.mk h
  clear h
  go_enter Try.func41, Try.ntmps41
  go_wp2_with fail
  refine (search_any k s time false HH.out _).mono ?_
  rintro e w1 ⟨rfl, hb⟩
  have HB1 := Aside0.mk (show Below w.heap.size w w1 from below_chain (below_alloc (below_alloc (Below.refl _ _) _) _) hb)
  clear hb
  go_wp2_with fail
  all_goals (go_ret2; exact ⟨by first | rfl | trace_state, HB1.out⟩)
set_option maxRecDepth 100000 in
set_option maxHeartbeats 3200000 in
theorem fewest_yes (k : Nat → Int) (s : Sd) (time : Int) (h : searchB k s time = true) (w : World) : Calls Try.prog 43 #[A4 k, A4 (fn4 s), .int .i64 time] w fun e w' => e = .returned (.tuple #[.int .i64 (if (tellTo k s time 13).sets < 0 then 0 else (tellTo k s time 13).sets), .bool (decide (0 ≤ (tellTo k s time 13).sets))]) ∧ Below w.heap.size w w' := by
  obtain ⟨h1, h2, h3⟩ := search_parts h
  have HT := fun W => toTell_any k s time h1 h2 h3 W
  have HH := Aside0.mk h
  obtain ⟨B, hB⟩ : ∃ B, tellTo k s time 13 = B := ⟨_, rfl⟩
  rw [hB] at HT ⊢
  simp only [AB] at HT
  have hf0 := best_f0 B
  have hf1 := best_f1 B
  clear h1 h h2 h3 hB
  go_enter Try.func43, Try.ntmps43
  go_wp2_with fail
  refine (search_any k s time true HH.out _).mono ?_
  rintro e w1 ⟨rfl, hb⟩
  have HK1 := Aside0.mk (blk_below (blk_alloc (heap_alloc_new w (.cells #[.int .i64 (k 0), .int .i64 (k 1), .int .i64 (k 2), .int .i64 (k 3)] 27 (0, 0))) (.cells #[.int .i64 (fn4 s 0), .int .i64 (fn4 s 1), .int .i64 (fn4 s 2), .int .i64 (fn4 s 3)] 22 (0, 0))) hb)
  have HS1 := Aside0.mk (show w1.heap[w.heap.size + 1]? = some (.cells #[.int .i64 (fn4 s 0), .int .i64 (fn4 s 1), .int .i64 (fn4 s 2), .int .i64 (fn4 s 3)] 22 (0, 0)) by
    have := blk_below (heap_alloc_new (w.alloc (.cells #[.int .i64 (k 0), .int .i64 (k 1), .int .i64 (k 2), .int .i64 (k 3)] 27 (0, 0))) _) hb
    simpa using this)
  have HB1 := Aside0.mk (show Below w.heap.size w w1 from below_chain (below_alloc (below_alloc (Below.refl _ _) _) _) hb)
  clear hb
  have q0 : w1.cell? ⟨w.heap.size, 0, none⟩ = some (.int .i64 (k 0)) := (blk_cell HK1.out 0).trans rfl
  have q1 : w1.cell? ⟨w.heap.size, 1, none⟩ = some (.int .i64 (k 1)) := (blk_cell HK1.out 1).trans rfl
  have q2 : w1.cell? ⟨w.heap.size, 2, none⟩ = some (.int .i64 (k 2)) := (blk_cell HK1.out 2).trans rfl
  have q3 : w1.cell? ⟨w.heap.size, 3, none⟩ = some (.int .i64 (k 3)) := (blk_cell HK1.out 3).trans rfl
  have r0 : w1.cell? ⟨w.heap.size + 1, 0, none⟩ = some (.int .i64 (fn4 s 0)) := (blk_cell HS1.out 0).trans rfl
  have r1 : w1.cell? ⟨w.heap.size + 1, 1, none⟩ = some (.int .i64 (fn4 s 1)) := (blk_cell HS1.out 1).trans rfl
  have r2 : w1.cell? ⟨w.heap.size + 1, 2, none⟩ = some (.int .i64 (fn4 s 2)) := (blk_cell HS1.out 2).trans rfl
  have r3 : w1.cell? ⟨w.heap.size + 1, 3, none⟩ = some (.int .i64 (fn4 s 3)) := (blk_cell HS1.out 3).trans rfl
  go_wp2_with fail
  refine (HT _).mono ?_
  rintro e w2 ⟨rfl, hb2⟩
  have HB2 := Aside0.mk (below_chain HB1.out hb2)
  clear hb2 HT
  go_wp2_with fail
  all_goals (go_ret2; exact ⟨by first | rfl | trace_state, HB2.out⟩)
theorem fewest_no (k : Nat → Int) (s : Sd) (time : Int) (h : searchB k s time = false) (w : World) : Calls Try.prog 43 #[A4 k, A4 (fn4 s), .int .i64 time] w fun e w' => e = .returned (.tuple #[.int .i64 0, .bool false]) ∧ Below w.heap.size w w' := by
  have HH := Aside0.mk h
  clear h
  go_enter Try.func43, Try.ntmps43
  go_wp2_with fail
  refine (search_any k s time false HH.out _).mono ?_
  rintro e w1 ⟨rfl, hb⟩
  have HB1 := Aside0.mk (show Below w.heap.size w w1 from below_chain (below_alloc (below_alloc (Below.refl _ _) _) _) hb)
  clear hb
  go_wp2_with fail
  all_goals (go_ret2; exact ⟨by first | rfl | trace_state, HB1.out⟩)
set_option maxRecDepth 100000 in
set_option maxHeartbeats 3200000 in
theorem turns_yes (k : Nat → Int) (s : Sd) (time : Int) (h : searchB k s time = true) (w : World) : Calls Try.prog 39 #[A4 k, A4 (fn4 s), .int .i64 time] w fun e w' => e = .returned (.tuple #[.int .i64 (if (tellTo k s time 13).turns < 0 then 0 else (tellTo k s time 13).turns), .bool (decide (0 ≤ (tellTo k s time 13).turns))]) ∧ Below w.heap.size w w' := by
  obtain ⟨h1, h2, h3⟩ := search_parts h
  have HT := fun W => toTell_any k s time h1 h2 h3 W
  have HH := Aside0.mk h
  obtain ⟨B, hB⟩ : ∃ B, tellTo k s time 13 = B := ⟨_, rfl⟩
  rw [hB] at HT ⊢
  simp only [AB] at HT
  have hf0 := best_f0 B
  have hf1 := best_f1 B
  clear h1 h h2 h3 hB
  go_enter Try.func39, Try.ntmps39
  go_wp2_with fail
  refine (search_any k s time true HH.out _).mono ?_
  rintro e w1 ⟨rfl, hb⟩
  have HK1 := Aside0.mk (blk_below (blk_alloc (heap_alloc_new w (.cells #[.int .i64 (k 0), .int .i64 (k 1), .int .i64 (k 2), .int .i64 (k 3)] 27 (0, 0))) (.cells #[.int .i64 (fn4 s 0), .int .i64 (fn4 s 1), .int .i64 (fn4 s 2), .int .i64 (fn4 s 3)] 22 (0, 0))) hb)
  have HS1 := Aside0.mk (show w1.heap[w.heap.size + 1]? = some (.cells #[.int .i64 (fn4 s 0), .int .i64 (fn4 s 1), .int .i64 (fn4 s 2), .int .i64 (fn4 s 3)] 22 (0, 0)) by
    have := blk_below (heap_alloc_new (w.alloc (.cells #[.int .i64 (k 0), .int .i64 (k 1), .int .i64 (k 2), .int .i64 (k 3)] 27 (0, 0))) _) hb
    simpa using this)
  have HB1 := Aside0.mk (show Below w.heap.size w w1 from below_chain (below_alloc (below_alloc (Below.refl _ _) _) _) hb)
  clear hb
  have q0 : w1.cell? ⟨w.heap.size, 0, none⟩ = some (.int .i64 (k 0)) := (blk_cell HK1.out 0).trans rfl
  have q1 : w1.cell? ⟨w.heap.size, 1, none⟩ = some (.int .i64 (k 1)) := (blk_cell HK1.out 1).trans rfl
  have q2 : w1.cell? ⟨w.heap.size, 2, none⟩ = some (.int .i64 (k 2)) := (blk_cell HK1.out 2).trans rfl
  have q3 : w1.cell? ⟨w.heap.size, 3, none⟩ = some (.int .i64 (k 3)) := (blk_cell HK1.out 3).trans rfl
  have r0 : w1.cell? ⟨w.heap.size + 1, 0, none⟩ = some (.int .i64 (fn4 s 0)) := (blk_cell HS1.out 0).trans rfl
  have r1 : w1.cell? ⟨w.heap.size + 1, 1, none⟩ = some (.int .i64 (fn4 s 1)) := (blk_cell HS1.out 1).trans rfl
  have r2 : w1.cell? ⟨w.heap.size + 1, 2, none⟩ = some (.int .i64 (fn4 s 2)) := (blk_cell HS1.out 2).trans rfl
  have r3 : w1.cell? ⟨w.heap.size + 1, 3, none⟩ = some (.int .i64 (fn4 s 3)) := (blk_cell HS1.out 3).trans rfl
  go_wp2_with fail
  refine (HT _).mono ?_
  rintro e w2 ⟨rfl, hb2⟩
  have HB2 := Aside0.mk (below_chain HB1.out hb2)
  clear hb2 HT
  go_wp2_with fail
  all_goals (go_ret2; exact ⟨by first | rfl | trace_state, HB2.out⟩)
theorem turns_no (k : Nat → Int) (s : Sd) (time : Int) (h : searchB k s time = false) (w : World) : Calls Try.prog 39 #[A4 k, A4 (fn4 s), .int .i64 time] w fun e w' => e = .returned (.tuple #[.int .i64 0, .bool false]) ∧ Below w.heap.size w w' := by
  have HH := Aside0.mk h
  clear h
  go_enter Try.func39, Try.ntmps39
  go_wp2_with fail
  refine (search_any k s time false HH.out _).mono ?_
  rintro e w1 ⟨rfl, hb⟩
  have HB1 := Aside0.mk (show Below w.heap.size w w1 from below_chain (below_alloc (below_alloc (Below.refl _ _) _) _) hb)
  clear hb
  go_wp2_with fail
  all_goals (go_ret2; exact ⟨by first | rfl | trace_state, HB1.out⟩)
set_option maxRecDepth 100000 in
set_option maxHeartbeats 3200000 in
theorem count_yes (k : Nat → Int) (s : Sd) (time : Int) (n : Nat) (hn : n ≤ 12) (h : searchB k s time = true) (w : World) : Calls Try.prog 37 #[A4 k, A4 (fn4 s), .int .i64 time, .int .i64 (n : Int)] w fun e w' => e = .returned (.tuple #[.int .i64 ((tellTo k s time 13).c n), .bool true]) ∧ Below w.heap.size w w' := by
  obtain ⟨h1, h2, h3⟩ := search_parts h
  have HT := fun W => toTell_any k s time h1 h2 h3 W
  have HH := Aside0.mk h
  obtain ⟨B, hB⟩ : ∃ B, tellTo k s time 13 = B := ⟨_, rfl⟩
  rw [hB] at HT ⊢
  simp only [AB] at HT
  have hf0 := best_f0 B
  have hf1 := best_f2 B
  have hf2 := best_ix B n (by omega)
  have n0 : (0 : Int) ≤ (n : Int) := by omega
  have n1 : (n : Int) < 13 := by omega
  have hin : inB 0 12 (n : Int) = true := by rw [inB_iff]; omega
  have HIN := fun W => within_any (n : Int) 0 12 W
  rw [hin] at HIN
  clear hin hn
  clear h1 h h2 h3 hB
  go_enter Try.func37, Try.ntmps37
  go_wp2_with fail
  refine (search_any k s time true HH.out _).mono ?_
  rintro e w1 ⟨rfl, hb⟩
  have HK1 := Aside0.mk (blk_below (blk_alloc (heap_alloc_new w (.cells #[.int .i64 (k 0), .int .i64 (k 1), .int .i64 (k 2), .int .i64 (k 3)] 27 (0, 0))) (.cells #[.int .i64 (fn4 s 0), .int .i64 (fn4 s 1), .int .i64 (fn4 s 2), .int .i64 (fn4 s 3)] 22 (0, 0))) hb)
  have HS1 := Aside0.mk (show w1.heap[w.heap.size + 1]? = some (.cells #[.int .i64 (fn4 s 0), .int .i64 (fn4 s 1), .int .i64 (fn4 s 2), .int .i64 (fn4 s 3)] 22 (0, 0)) by
    have := blk_below (heap_alloc_new (w.alloc (.cells #[.int .i64 (k 0), .int .i64 (k 1), .int .i64 (k 2), .int .i64 (k 3)] 27 (0, 0))) _) hb
    simpa using this)
  have HB1 := Aside0.mk (show Below w.heap.size w w1 from below_chain (below_alloc (below_alloc (Below.refl _ _) _) _) hb)
  clear hb
  have q0 : w1.cell? ⟨w.heap.size, 0, none⟩ = some (.int .i64 (k 0)) := (blk_cell HK1.out 0).trans rfl
  have q1 : w1.cell? ⟨w.heap.size, 1, none⟩ = some (.int .i64 (k 1)) := (blk_cell HK1.out 1).trans rfl
  have q2 : w1.cell? ⟨w.heap.size, 2, none⟩ = some (.int .i64 (k 2)) := (blk_cell HK1.out 2).trans rfl
  have q3 : w1.cell? ⟨w.heap.size, 3, none⟩ = some (.int .i64 (k 3)) := (blk_cell HK1.out 3).trans rfl
  have r0 : w1.cell? ⟨w.heap.size + 1, 0, none⟩ = some (.int .i64 (fn4 s 0)) := (blk_cell HS1.out 0).trans rfl
  have r1 : w1.cell? ⟨w.heap.size + 1, 1, none⟩ = some (.int .i64 (fn4 s 1)) := (blk_cell HS1.out 1).trans rfl
  have r2 : w1.cell? ⟨w.heap.size + 1, 2, none⟩ = some (.int .i64 (fn4 s 2)) := (blk_cell HS1.out 2).trans rfl
  have r3 : w1.cell? ⟨w.heap.size + 1, 3, none⟩ = some (.int .i64 (fn4 s 3)) := (blk_cell HS1.out 3).trans rfl
  go_wp2_with fail
  refine (HIN _).mono ?_
  rintro e w1' ⟨rfl, rfl⟩
  go_wp2_with fail
  refine (HT _).mono ?_
  rintro e w2 ⟨rfl, hb2⟩
  have HB2 := Aside0.mk (below_chain HB1.out hb2)
  clear hb2 HT
  go_wp2_with fail
  all_goals (go_ret2; exact ⟨by first | rfl | trace_state, HB2.out⟩)
theorem count_no (k : Nat → Int) (s : Sd) (time n : Int) (h : searchB k s time = false) (w : World) : Calls Try.prog 37 #[A4 k, A4 (fn4 s), .int .i64 time, .int .i64 n] w fun e w' => e = .returned (.tuple #[.int .i64 0, .bool false]) ∧ Below w.heap.size w w' := by
  have HH := Aside0.mk h
  clear h
  go_enter Try.func37, Try.ntmps37
  go_wp2_with fail
  refine (search_any k s time false HH.out _).mono ?_
  rintro e w1 ⟨rfl, hb⟩
  have HB1 := Aside0.mk (show Below w.heap.size w w1 from below_chain (below_alloc (below_alloc (Below.refl _ _) _) _) hb)
  clear hb
  go_wp2_with fail
  all_goals (go_ret2; exact ⟨by first | rfl | trace_state, HB1.out⟩)
set_option maxRecDepth 100000 in
theorem count_out (k : Nat → Int) (s : Sd) (time n : Int) (h : searchB k s time = true) (hn : inB 0 12 n = false) (w : World) : Calls Try.prog 37 #[A4 k, A4 (fn4 s), .int .i64 time, .int .i64 n] w fun e w' => e = .returned (.tuple #[.int .i64 0, .bool false]) ∧ Below w.heap.size w w' := by
  have HH := Aside0.mk h
  have HIN := fun W => within_any n 0 12 W
  rw [hn] at HIN
  clear h hn
  go_enter Try.func37, Try.ntmps37
  go_wp2_with fail
  refine (search_any k s time true HH.out _).mono ?_
  rintro e w1 ⟨rfl, hb⟩
  have HB1 := Aside0.mk (show Below w.heap.size w w1 from below_chain (below_alloc (below_alloc (Below.refl _ _) _) _) hb)
  clear hb
  go_wp2_with fail
  refine (HIN _).mono ?_
  rintro e w1' ⟨rfl, rfl⟩
  go_wp2_with fail
  all_goals (go_ret2; exact ⟨by first | rfl | trace_state, HB1.out⟩)
def xCanTell.f (a0_0 a0_1 a0_2 a0_3 a1_0 a1_1 a1_2 a1_3 a2 : Int) : Option (Bool × Bool) :=
  if searchB (v4 a0_0 a0_1 a0_2 a0_3) (a1_0, a1_1, a1_2, a1_3) a2 = true then some (decide (0 ≤ (tellTo (v4 a0_0 a0_1 a0_2 a0_3) (a1_0, a1_1, a1_2, a1_3) a2 13).sets), true) else some (false, false)
theorem xCanTell.calls (a0_0 a0_1 a0_2 a0_3 a1_0 a1_1 a1_2 a1_3 a2 : Int) (r1 : Bool) (r2 : Bool) (w : World) (h : xCanTell.f a0_0 a0_1 a0_2 a0_3 a1_0 a1_1 a1_2 a1_3 a2 = some (r1, r2)) : Calls Try.prog 41 #[.agg #[.int .i64 a0_0, .int .i64 a0_1, .int .i64 a0_2, .int .i64 a0_3], .agg #[.int .i64 a1_0, .int .i64 a1_1, .int .i64 a1_2, .int .i64 a1_3], .int .i64 a2] w fun e w' => e = .returned (.tuple #[.bool r1, .bool r2]) ∧ Below w.heap.size w w' := by
  unfold xCanTell.f at h
  by_cases q : searchB (v4 a0_0 a0_1 a0_2 a0_3) (a1_0, a1_1, a1_2, a1_3) a2 = true
  · rw [if_pos q] at h
    simp only [Option.some.injEq, Prod.mk.injEq] at h
    obtain ⟨rfl, rfl⟩ := h
    exact canTell_yes (v4 a0_0 a0_1 a0_2 a0_3) (a1_0, a1_1, a1_2, a1_3) a2 q w
  · rw [if_neg q] at h
    simp only [Option.some.injEq, Prod.mk.injEq] at h
    obtain ⟨rfl, rfl⟩ := h
    exact canTell_no (v4 a0_0 a0_1 a0_2 a0_3) (a1_0, a1_1, a1_2, a1_3) a2 (by simpa using q) w
def xFewest.f (a0_0 a0_1 a0_2 a0_3 a1_0 a1_1 a1_2 a1_3 a2 : Int) : Option (Int × Bool) :=
  if searchB (v4 a0_0 a0_1 a0_2 a0_3) (a1_0, a1_1, a1_2, a1_3) a2 = true then some (if (tellTo (v4 a0_0 a0_1 a0_2 a0_3) (a1_0, a1_1, a1_2, a1_3) a2 13).sets < 0 then 0 else (tellTo (v4 a0_0 a0_1 a0_2 a0_3) (a1_0, a1_1, a1_2, a1_3) a2 13).sets, decide (0 ≤ (tellTo (v4 a0_0 a0_1 a0_2 a0_3) (a1_0, a1_1, a1_2, a1_3) a2 13).sets)) else some (0, false)
theorem xFewest.calls (a0_0 a0_1 a0_2 a0_3 a1_0 a1_1 a1_2 a1_3 a2 : Int) (r1 : Int) (r2 : Bool) (w : World) (h : xFewest.f a0_0 a0_1 a0_2 a0_3 a1_0 a1_1 a1_2 a1_3 a2 = some (r1, r2)) : Calls Try.prog 43 #[.agg #[.int .i64 a0_0, .int .i64 a0_1, .int .i64 a0_2, .int .i64 a0_3], .agg #[.int .i64 a1_0, .int .i64 a1_1, .int .i64 a1_2, .int .i64 a1_3], .int .i64 a2] w fun e w' => e = .returned (.tuple #[.int .i64 r1, .bool r2]) ∧ Below w.heap.size w w' := by
  unfold xFewest.f at h
  by_cases q : searchB (v4 a0_0 a0_1 a0_2 a0_3) (a1_0, a1_1, a1_2, a1_3) a2 = true
  · rw [if_pos q] at h
    simp only [Option.some.injEq, Prod.mk.injEq] at h
    obtain ⟨rfl, rfl⟩ := h
    exact fewest_yes (v4 a0_0 a0_1 a0_2 a0_3) (a1_0, a1_1, a1_2, a1_3) a2 q w
  · rw [if_neg q] at h
    simp only [Option.some.injEq, Prod.mk.injEq] at h
    obtain ⟨rfl, rfl⟩ := h
    exact fewest_no (v4 a0_0 a0_1 a0_2 a0_3) (a1_0, a1_1, a1_2, a1_3) a2 (by simpa using q) w
def xFewTurns.f (a0_0 a0_1 a0_2 a0_3 a1_0 a1_1 a1_2 a1_3 a2 : Int) : Option (Int × Bool) :=
  if searchB (v4 a0_0 a0_1 a0_2 a0_3) (a1_0, a1_1, a1_2, a1_3) a2 = true then some (if (tellTo (v4 a0_0 a0_1 a0_2 a0_3) (a1_0, a1_1, a1_2, a1_3) a2 13).turns < 0 then 0 else (tellTo (v4 a0_0 a0_1 a0_2 a0_3) (a1_0, a1_1, a1_2, a1_3) a2 13).turns, decide (0 ≤ (tellTo (v4 a0_0 a0_1 a0_2 a0_3) (a1_0, a1_1, a1_2, a1_3) a2 13).turns)) else some (0, false)
theorem xFewTurns.calls (a0_0 a0_1 a0_2 a0_3 a1_0 a1_1 a1_2 a1_3 a2 : Int) (r1 : Int) (r2 : Bool) (w : World) (h : xFewTurns.f a0_0 a0_1 a0_2 a0_3 a1_0 a1_1 a1_2 a1_3 a2 = some (r1, r2)) : Calls Try.prog 39 #[.agg #[.int .i64 a0_0, .int .i64 a0_1, .int .i64 a0_2, .int .i64 a0_3], .agg #[.int .i64 a1_0, .int .i64 a1_1, .int .i64 a1_2, .int .i64 a1_3], .int .i64 a2] w fun e w' => e = .returned (.tuple #[.int .i64 r1, .bool r2]) ∧ Below w.heap.size w w' := by
  unfold xFewTurns.f at h
  by_cases q : searchB (v4 a0_0 a0_1 a0_2 a0_3) (a1_0, a1_1, a1_2, a1_3) a2 = true
  · rw [if_pos q] at h
    simp only [Option.some.injEq, Prod.mk.injEq] at h
    obtain ⟨rfl, rfl⟩ := h
    exact turns_yes (v4 a0_0 a0_1 a0_2 a0_3) (a1_0, a1_1, a1_2, a1_3) a2 q w
  · rw [if_neg q] at h
    simp only [Option.some.injEq, Prod.mk.injEq] at h
    obtain ⟨rfl, rfl⟩ := h
    exact turns_no (v4 a0_0 a0_1 a0_2 a0_3) (a1_0, a1_1, a1_2, a1_3) a2 (by simpa using q) w
def xCount.f (a0_0 a0_1 a0_2 a0_3 a1_0 a1_1 a1_2 a1_3 a2 a3 : Int) : Option (Int × Bool) :=
  if searchB (v4 a0_0 a0_1 a0_2 a0_3) (a1_0, a1_1, a1_2, a1_3) a2 = true ∧ inB 0 12 a3 = true then some ((tellTo (v4 a0_0 a0_1 a0_2 a0_3) (a1_0, a1_1, a1_2, a1_3) a2 13).c a3.toNat, true) else some (0, false)
theorem xCount.calls (a0_0 a0_1 a0_2 a0_3 a1_0 a1_1 a1_2 a1_3 a2 a3 : Int) (r1 : Int) (r2 : Bool) (w : World) (h : xCount.f a0_0 a0_1 a0_2 a0_3 a1_0 a1_1 a1_2 a1_3 a2 a3 = some (r1, r2)) : Calls Try.prog 37 #[.agg #[.int .i64 a0_0, .int .i64 a0_1, .int .i64 a0_2, .int .i64 a0_3], .agg #[.int .i64 a1_0, .int .i64 a1_1, .int .i64 a1_2, .int .i64 a1_3], .int .i64 a2, .int .i64 a3] w fun e w' => e = .returned (.tuple #[.int .i64 r1, .bool r2]) ∧ Below w.heap.size w w' := by
  unfold xCount.f at h
  by_cases q : searchB (v4 a0_0 a0_1 a0_2 a0_3) (a1_0, a1_1, a1_2, a1_3) a2 = true
  · by_cases q2 : inB 0 12 a3 = true
    · rw [if_pos ⟨q, q2⟩] at h
      rw [inB_iff] at q2
      obtain ⟨n, rfl⟩ := Int.eq_ofNat_of_zero_le q2.1
      rw [Int.toNat_natCast] at h
      have e := Option.some.inj h
      rw [Prod.mk.injEq] at e
      obtain ⟨e1, e2⟩ := e
      subst e2
      rw [← e1]
      exact count_yes (v4 a0_0 a0_1 a0_2 a0_3) (a1_0, a1_1, a1_2, a1_3) a2 n (by omega) q w
    · rw [if_neg (fun z => q2 z.2)] at h
      simp only [Option.some.injEq, Prod.mk.injEq] at h
      obtain ⟨rfl, rfl⟩ := h
      exact count_out (v4 a0_0 a0_1 a0_2 a0_3) (a1_0, a1_1, a1_2, a1_3) a2 a3 q (by simpa using q2) w
  · rw [if_neg (fun z => q z.1)] at h
    simp only [Option.some.injEq, Prod.mk.injEq] at h
    obtain ⟨rfl, rfl⟩ := h
    exact count_no (v4 a0_0 a0_1 a0_2 a0_3) (a1_0, a1_1, a1_2, a1_3) a2 a3 (by simpa using q) w
end Go.Proofs.Ytlhodfjdmafapaa
