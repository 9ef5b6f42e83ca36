/- SortKit: the reference's walk and the law's. No statement of the seat is proved here. -/
import Derived.Test.YtohbmlhaaagfhaaSortW
namespace Go.Proofs.Ytohbmlhaaagfhaa
open Go.RowKit Go.Proofs.YtohbmlhaaagfhaaW.PrintWords
set_option linter.unusedVariables false
set_option linter.unusedSimpArgs false
set_option maxHeartbeats 6400000 in
set_option maxRecDepth 100000 in
theorem specSort_kf (kf : Nat → F31) (c : isKitB (fun i => ((kf i).val : Int)) = true) (w : World) : Calls Try.prog 24 #[A4 (fun i => ((kf i).val : Int))] w fun e w' => e = .returned (.tuple #[A4 (cel (Lm kf 31 0)), .bool true]) ∧ RowKit.Below w.heap.size w w' := by
  have hk := l2Kit_any (fun i => ((kf i).val : Int))
  rw [c] at hk
  clear c
  go_enter Try.func24, Try.ntmps24
  go_wp2_with fail
  refine (hk _).mono ?_
  rintro e w1 ⟨rfl, hb⟩
  have HG := Aside0.mk (show w1.heap[w.heap.size]? = some (.cells #[.int .i64 (((kf 0).val : Int)), .int .i64 (((kf 1).val : Int)), .int .i64 (((kf 2).val : Int)), .int .i64 (((kf 3).val : Int))] 28 (0, 0)) from blk_below (blk_alloc (heap_alloc_new w _) _) hb)
  have HR := Aside0.mk (show w1.heap[w.heap.size + 1]? = some (.cells #[.int .i64 0, .int .i64 0, .int .i64 0, .int .i64 0] 28 (0, 0)) by
    have hh := heap_alloc_new (w.alloc (.cells #[.int .i64 (((kf 0).val : Int)), .int .i64 (((kf 1).val : Int)), .int .i64 (((kf 2).val : Int)), .int .i64 (((kf 3).val : Int))] 28)) (.cells #[.int .i64 0, .int .i64 0, .int .i64 0, .int .i64 0] 28)
    rw [World.size_alloc] at hh
    exact blk_below hh hb)
  have HB := Aside0.mk (below_chain (below_alloc (below_alloc (RowKit.Below.refl w.heap.size w) _) _) hb)
  have HZ := Aside0.mk (show w.heap.size + 2 ≤ w1.heap.size by simpa using hb.size)
  clear hb hk
  go_wp2_with fail
  go_loopw [5, 6] (fun v5 v6 wr => ∃ m : Nat, 1 ≤ m ∧ m ≤ 31 ∧ v6 = .int .i64 (m : Int) ∧ v5 = .int .i64 ((Lm kf m 0).length : Int) ∧ Aside0 (SI w wr w.heap.size (w.heap.size + 1) w1.heap.size kf (Lm kf m 0))) (fun _ v6 _ => 32 - (intOf v6).toNat)
  case atStart =>
    refine ⟨1, by omega, by omega, rfl, rfl, ⟨⟨blk_alloc HG.out _, blk_alloc HR.out _, ?_, below_alloc HB.out _, ?_, ?_, ?_⟩⟩⟩
    · have hh := heap_alloc_new w1 (.cells #[.int .i64 0, .int .i64 0, .int .i64 0, .int .i64 0] 28)
      simpa [Lm_start, cel] using hh
    all_goals (have := HZ.out; omega)
  case round =>
    obtain ⟨m, hm1, hm2, rfl, rfl, HI⟩ := hrel
    clear HG HR HB
    by_cases c : m ≤ 30
    · have c0 : decide ((m : Int) ≤ 30) = true := decide_eq_true (by omega)
      have c1 : decide (m ≤ 30) = true := decide_eq_true c
      go_wp2_with fail
      go_loopw [5, 7] (fun v5 v7 wr2 => ∃ i : Nat, i ≤ 4 ∧ v7 = .int .i64 (i : Int) ∧ v5 = .int .i64 ((Lm kf m i).length : Int) ∧ Aside0 (SI w wr2 w.heap.size (w.heap.size + 1) w1.heap.size kf (Lm kf m i))) (fun _ v7 _ => 4 - (intOf v7).toNat)
      case atStart => exact ⟨0, by omega, rfl, rfl, HI⟩
      case round =>
        clear HI
        obtain ⟨i, hi, rfl, rfl, HI⟩ := hrel
        obtain rfl | rfl | rfl | rfl | rfl : i = 0 ∨ i = 1 ∨ i = 2 ∨ i = 3 ∨ i = 4 := by omega
        · have h := HI.out
          have a := (blk_cell h.hk 0).trans rfl
          clear h
          by_cases e : (kf 0).val = m
          · have e1 : (((kf 0).val : Int) == (m : Int)) = true := by simp [e]
            have e2 : ((kf 0).val == m) = true := by simp [e]
            have hs := Lm_short kf hm1 (i := 0) (by omega) e
            have ht := Lm_hit kf (m := m) (i := 0) (by omega) e
            have HS := Aside0.mk ht
            obtain ⟨n, hn⟩ : ∃ n, (Lm kf m 0).length = n := ⟨_, rfl⟩
            rw [hn] at hs ⊢
            have HN := Aside0.mk hn
            clear ht hn
            obtain rfl | rfl | rfl | rfl : n = 0 ∨ n = 1 ∨ n = 2 ∨ n = 3 := by omega
            · have o := (blk_cell HI.out.ho 0).trans rfl
              have of := blk_frozen HI.out.ho 0
              clear hs
              go_wp2_with fail
              refine ⟨⟨1, by omega, rfl, ?_, ⟨?_⟩⟩, by simp [intOf]⟩
              · rw [HS.out, List.length_append, HN.out]; rfl
              · rw [HS.out]
                have q := HI.out.put HN.out (by omega) (kf 0)
                rw [e] at q
                exact q
            · have o := (blk_cell HI.out.ho 1).trans rfl
              have of := blk_frozen HI.out.ho 1
              clear hs
              go_wp2_with fail
              refine ⟨⟨1, by omega, rfl, ?_, ⟨?_⟩⟩, by simp [intOf]⟩
              · rw [HS.out, List.length_append, HN.out]; rfl
              · rw [HS.out]
                have q := HI.out.put HN.out (by omega) (kf 0)
                rw [e] at q
                exact q
            · have o := (blk_cell HI.out.ho 2).trans rfl
              have of := blk_frozen HI.out.ho 2
              clear hs
              go_wp2_with fail
              refine ⟨⟨1, by omega, rfl, ?_, ⟨?_⟩⟩, by simp [intOf]⟩
              · rw [HS.out, List.length_append, HN.out]; rfl
              · rw [HS.out]
                have q := HI.out.put HN.out (by omega) (kf 0)
                rw [e] at q
                exact q
            · have o := (blk_cell HI.out.ho 3).trans rfl
              have of := blk_frozen HI.out.ho 3
              clear hs
              go_wp2_with fail
              refine ⟨⟨1, by omega, rfl, ?_, ⟨?_⟩⟩, by simp [intOf]⟩
              · rw [HS.out, List.length_append, HN.out]; rfl
              · rw [HS.out]
                have q := HI.out.put HN.out (by omega) (kf 0)
                rw [e] at q
                exact q
          · have e1 : (((kf 0).val : Int) == (m : Int)) = false := by simp; omega
            have e2 : ((kf 0).val == m) = false := by simp [e]
            have ht := Lm_miss kf (m := m) (i := 0) (by omega) e
            have HS := Aside0.mk ht
            clear ht
            go_wp2_with fail
            refine ⟨⟨1, by omega, rfl, ?_, ⟨?_⟩⟩, by simp [intOf]⟩
            · rw [HS.out]
            · rw [HS.out]; exact HI.out
        · have h := HI.out
          have a := (blk_cell h.hk 1).trans rfl
          clear h
          by_cases e : (kf 1).val = m
          · have e1 : (((kf 1).val : Int) == (m : Int)) = true := by simp [e]
            have e2 : ((kf 1).val == m) = true := by simp [e]
            have hs := Lm_short kf hm1 (i := 1) (by omega) e
            have ht := Lm_hit kf (m := m) (i := 1) (by omega) e
            have HS := Aside0.mk ht
            obtain ⟨n, hn⟩ : ∃ n, (Lm kf m 1).length = n := ⟨_, rfl⟩
            rw [hn] at hs ⊢
            have HN := Aside0.mk hn
            clear ht hn
            obtain rfl | rfl | rfl | rfl : n = 0 ∨ n = 1 ∨ n = 2 ∨ n = 3 := by omega
            · have o := (blk_cell HI.out.ho 0).trans rfl
              have of := blk_frozen HI.out.ho 0
              clear hs
              go_wp2_with fail
              refine ⟨⟨2, by omega, rfl, ?_, ⟨?_⟩⟩, by simp [intOf]⟩
              · rw [HS.out, List.length_append, HN.out]; rfl
              · rw [HS.out]
                have q := HI.out.put HN.out (by omega) (kf 1)
                rw [e] at q
                exact q
            · have o := (blk_cell HI.out.ho 1).trans rfl
              have of := blk_frozen HI.out.ho 1
              clear hs
              go_wp2_with fail
              refine ⟨⟨2, by omega, rfl, ?_, ⟨?_⟩⟩, by simp [intOf]⟩
              · rw [HS.out, List.length_append, HN.out]; rfl
              · rw [HS.out]
                have q := HI.out.put HN.out (by omega) (kf 1)
                rw [e] at q
                exact q
            · have o := (blk_cell HI.out.ho 2).trans rfl
              have of := blk_frozen HI.out.ho 2
              clear hs
              go_wp2_with fail
              refine ⟨⟨2, by omega, rfl, ?_, ⟨?_⟩⟩, by simp [intOf]⟩
              · rw [HS.out, List.length_append, HN.out]; rfl
              · rw [HS.out]
                have q := HI.out.put HN.out (by omega) (kf 1)
                rw [e] at q
                exact q
            · have o := (blk_cell HI.out.ho 3).trans rfl
              have of := blk_frozen HI.out.ho 3
              clear hs
              go_wp2_with fail
              refine ⟨⟨2, by omega, rfl, ?_, ⟨?_⟩⟩, by simp [intOf]⟩
              · rw [HS.out, List.length_append, HN.out]; rfl
              · rw [HS.out]
                have q := HI.out.put HN.out (by omega) (kf 1)
                rw [e] at q
                exact q
          · have e1 : (((kf 1).val : Int) == (m : Int)) = false := by simp; omega
            have e2 : ((kf 1).val == m) = false := by simp [e]
            have ht := Lm_miss kf (m := m) (i := 1) (by omega) e
            have HS := Aside0.mk ht
            clear ht
            go_wp2_with fail
            refine ⟨⟨2, by omega, rfl, ?_, ⟨?_⟩⟩, by simp [intOf]⟩
            · rw [HS.out]
            · rw [HS.out]; exact HI.out
        · have h := HI.out
          have a := (blk_cell h.hk 2).trans rfl
          clear h
          by_cases e : (kf 2).val = m
          · have e1 : (((kf 2).val : Int) == (m : Int)) = true := by simp [e]
            have e2 : ((kf 2).val == m) = true := by simp [e]
            have hs := Lm_short kf hm1 (i := 2) (by omega) e
            have ht := Lm_hit kf (m := m) (i := 2) (by omega) e
            have HS := Aside0.mk ht
            obtain ⟨n, hn⟩ : ∃ n, (Lm kf m 2).length = n := ⟨_, rfl⟩
            rw [hn] at hs ⊢
            have HN := Aside0.mk hn
            clear ht hn
            obtain rfl | rfl | rfl | rfl : n = 0 ∨ n = 1 ∨ n = 2 ∨ n = 3 := by omega
            · have o := (blk_cell HI.out.ho 0).trans rfl
              have of := blk_frozen HI.out.ho 0
              clear hs
              go_wp2_with fail
              refine ⟨⟨3, by omega, rfl, ?_, ⟨?_⟩⟩, by simp [intOf]⟩
              · rw [HS.out, List.length_append, HN.out]; rfl
              · rw [HS.out]
                have q := HI.out.put HN.out (by omega) (kf 2)
                rw [e] at q
                exact q
            · have o := (blk_cell HI.out.ho 1).trans rfl
              have of := blk_frozen HI.out.ho 1
              clear hs
              go_wp2_with fail
              refine ⟨⟨3, by omega, rfl, ?_, ⟨?_⟩⟩, by simp [intOf]⟩
              · rw [HS.out, List.length_append, HN.out]; rfl
              · rw [HS.out]
                have q := HI.out.put HN.out (by omega) (kf 2)
                rw [e] at q
                exact q
            · have o := (blk_cell HI.out.ho 2).trans rfl
              have of := blk_frozen HI.out.ho 2
              clear hs
              go_wp2_with fail
              refine ⟨⟨3, by omega, rfl, ?_, ⟨?_⟩⟩, by simp [intOf]⟩
              · rw [HS.out, List.length_append, HN.out]; rfl
              · rw [HS.out]
                have q := HI.out.put HN.out (by omega) (kf 2)
                rw [e] at q
                exact q
            · have o := (blk_cell HI.out.ho 3).trans rfl
              have of := blk_frozen HI.out.ho 3
              clear hs
              go_wp2_with fail
              refine ⟨⟨3, by omega, rfl, ?_, ⟨?_⟩⟩, by simp [intOf]⟩
              · rw [HS.out, List.length_append, HN.out]; rfl
              · rw [HS.out]
                have q := HI.out.put HN.out (by omega) (kf 2)
                rw [e] at q
                exact q
          · have e1 : (((kf 2).val : Int) == (m : Int)) = false := by simp; omega
            have e2 : ((kf 2).val == m) = false := by simp [e]
            have ht := Lm_miss kf (m := m) (i := 2) (by omega) e
            have HS := Aside0.mk ht
            clear ht
            go_wp2_with fail
            refine ⟨⟨3, by omega, rfl, ?_, ⟨?_⟩⟩, by simp [intOf]⟩
            · rw [HS.out]
            · rw [HS.out]; exact HI.out
        · have h := HI.out
          have a := (blk_cell h.hk 3).trans rfl
          clear h
          by_cases e : (kf 3).val = m
          · have e1 : (((kf 3).val : Int) == (m : Int)) = true := by simp [e]
            have e2 : ((kf 3).val == m) = true := by simp [e]
            have hs := Lm_short kf hm1 (i := 3) (by omega) e
            have ht := Lm_hit kf (m := m) (i := 3) (by omega) e
            have HS := Aside0.mk ht
            obtain ⟨n, hn⟩ : ∃ n, (Lm kf m 3).length = n := ⟨_, rfl⟩
            rw [hn] at hs ⊢
            have HN := Aside0.mk hn
            clear ht hn
            obtain rfl | rfl | rfl | rfl : n = 0 ∨ n = 1 ∨ n = 2 ∨ n = 3 := by omega
            · have o := (blk_cell HI.out.ho 0).trans rfl
              have of := blk_frozen HI.out.ho 0
              clear hs
              go_wp2_with fail
              refine ⟨⟨4, by omega, rfl, ?_, ⟨?_⟩⟩, by simp [intOf]⟩
              · rw [HS.out, List.length_append, HN.out]; rfl
              · rw [HS.out]
                have q := HI.out.put HN.out (by omega) (kf 3)
                rw [e] at q
                exact q
            · have o := (blk_cell HI.out.ho 1).trans rfl
              have of := blk_frozen HI.out.ho 1
              clear hs
              go_wp2_with fail
              refine ⟨⟨4, by omega, rfl, ?_, ⟨?_⟩⟩, by simp [intOf]⟩
              · rw [HS.out, List.length_append, HN.out]; rfl
              · rw [HS.out]
                have q := HI.out.put HN.out (by omega) (kf 3)
                rw [e] at q
                exact q
            · have o := (blk_cell HI.out.ho 2).trans rfl
              have of := blk_frozen HI.out.ho 2
              clear hs
              go_wp2_with fail
              refine ⟨⟨4, by omega, rfl, ?_, ⟨?_⟩⟩, by simp [intOf]⟩
              · rw [HS.out, List.length_append, HN.out]; rfl
              · rw [HS.out]
                have q := HI.out.put HN.out (by omega) (kf 3)
                rw [e] at q
                exact q
            · have o := (blk_cell HI.out.ho 3).trans rfl
              have of := blk_frozen HI.out.ho 3
              clear hs
              go_wp2_with fail
              refine ⟨⟨4, by omega, rfl, ?_, ⟨?_⟩⟩, by simp [intOf]⟩
              · rw [HS.out, List.length_append, HN.out]; rfl
              · rw [HS.out]
                have q := HI.out.put HN.out (by omega) (kf 3)
                rw [e] at q
                exact q
          · have e1 : (((kf 3).val : Int) == (m : Int)) = false := by simp; omega
            have e2 : ((kf 3).val == m) = false := by simp [e]
            have ht := Lm_miss kf (m := m) (i := 3) (by omega) e
            have HS := Aside0.mk ht
            clear ht
            go_wp2_with fail
            refine ⟨⟨4, by omega, rfl, ?_, ⟨?_⟩⟩, by simp [intOf]⟩
            · rw [HS.out]
            · rw [HS.out]; exact HI.out
        · have hl := Lm_le kf m
          rw [Lm_next kf hm1] at hl
          go_wp2_with fail
          refine ⟨⟨m + 1, by omega, by omega, by first | rfl | (congr 1; unfold wrap64; omega), by rw [Lm_next kf hm1], ⟨by rw [Lm_next kf hm1]; exact HI.out⟩⟩, ?_⟩
          simp only [intOf]
          omega
    · obtain rfl : m = 31 := by omega
      have h := HI.out
      have o0 : _ = some (Value.int .i64 (cel (Lm kf 31 0) 0)) := (blk_cell h.ho 0).trans rfl
      have of0 := blk_frozen h.ho 0
      have o1 : _ = some (Value.int .i64 (cel (Lm kf 31 0) 1)) := (blk_cell h.ho 1).trans rfl
      have of1 := blk_frozen h.ho 1
      have o2 : _ = some (Value.int .i64 (cel (Lm kf 31 0) 2)) := (blk_cell h.ho 2).trans rfl
      have of2 := blk_frozen h.ho 2
      have o3 : _ = some (Value.int .i64 (cel (Lm kf 31 0) 3)) := (blk_cell h.ho 3).trans rfl
      have of3 := blk_frozen h.ho 3
      have r0 := (blk_cell h.hr 0).trans rfl
      have rf0 := blk_frozen h.hr 0
      have r1 := (blk_cell h.hr 1).trans rfl
      have rf1 := blk_frozen h.hr 1
      have r2 := (blk_cell h.hr 2).trans rfl
      have rf2 := blk_frozen h.hr 2
      have r3 := (blk_cell h.hr 3).trans rfl
      have rf3 := blk_frozen h.hr 3
      clear h
      go_wp2_with fail
      refine bodyPost_ret (v := .tuple #[A4 (cel (Lm kf 31 0)), .bool true]) (by simp [results, Try.results24, go_sem, *]) rfl ⟨rfl, ?_⟩
      exact bl_set _ (by simp) (bl_set _ (by simp) (bl_set _ (by simp) (bl_set _ (by simp) HI.out.hb)))
set_option maxHeartbeats 1600000 in
theorem specSort_any (k : Nat → Int) (w : World) : Calls Try.prog 24 #[A4 k] w fun e w' => e = .returned (.tuple #[A4 (resK k).1, .bool (resK k).2]) ∧ RowKit.Below w.heap.size w w' := by
  cases c : isKitB k
  · have er : resK k = (fun _ => 0, false) := by unfold resK; rw [c]; rfl
    have hk := l2Kit_any k
    rw [c] at hk
    rw [er]
    go_enter Try.func24, Try.ntmps24
    go_wp2_with fail
    refine (hk _).mono ?_
    rintro e w1 ⟨rfl, hb⟩
    have HR := Aside0.mk (show w1.heap[w.heap.size + 1]? = some (.cells #[.int .i64 0, .int .i64 0, .int .i64 0, .int .i64 0] 28 (0, 0)) by
      have hh := heap_alloc_new (w.alloc (.cells #[.int .i64 (k 0), .int .i64 (k 1), .int .i64 (k 2), .int .i64 (k 3)] 28)) (.cells #[.int .i64 0, .int .i64 0, .int .i64 0, .int .i64 0] 28)
      rw [World.size_alloc] at hh
      exact blk_below hh hb)
    have HB := Aside0.mk (below_chain (below_alloc (below_alloc (RowKit.Below.refl w.heap.size w) _) _) hb)
    clear hb hk
    have r0 := (blk_cell HR.out 0).trans rfl
    have rf0 := blk_frozen HR.out 0
    have r1 := (blk_cell HR.out 1).trans rfl
    have rf1 := blk_frozen HR.out 1
    have r2 := (blk_cell HR.out 2).trans rfl
    have rf2 := blk_frozen HR.out 2
    have r3 := (blk_cell HR.out 3).trans rfl
    have rf3 := blk_frozen HR.out 3
    go_wp2_with fail
    refine bodyPost_ret (v := .tuple #[A4 (fun _ => 0), .bool false]) (by simp [results, Try.results24, go_sem, *]) rfl ⟨rfl, ?_⟩
    exact bl_set _ (by simp) (bl_set _ (by simp) (bl_set _ (by simp) (bl_set _ (by simp) HB.out)))
  · have er : resK k = (cel (Lm (kfOf k) 31 0), true) := by unfold resK; rw [c]; rfl
    have c2 : isKitB (fun i => ((kfOf k i).val : Int)) = true := by
      rw [← c]
      simp only [isKitB, kf_val c 0 (by omega), kf_val c 1 (by omega), kf_val c 2 (by omega), kf_val c 3 (by omega)]
    rw [er, kit_cells c]
    exact specSort_kf (kfOf k) c2 w
set_option maxHeartbeats 1600000 in
theorem lawSort_any (k : Nat → Int) (w : World) : Calls Try.prog 5 #[A4 k] w fun e w' => e = .returned (.bool true) ∧ RowKit.Below w.heap.size w w' := by
  have hK := toKit_any k
  have hS := specSort_any k
  have hI := implSort_any k
  generalize (resK k).1 = r at hS hI
  generalize (resK k).2 = o at hS hI
  go_enter Try.func5, Try.ntmps5
  go_wp2_with fail
  refine (hK _).mono ?_
  rintro e w1 ⟨rfl, hb⟩
  have HB1 := Aside0.mk (below_chain (below_alloc (RowKit.Below.refl w.heap.size w) _) hb)
  have HG1 := Aside0.mk (show w1.heap[w.heap.size]? = some (.cells #[.int .i64 (k 0), .int .i64 (k 1), .int .i64 (k 2), .int .i64 (k 3)] 24 (0, 0)) from blk_below (heap_alloc_new w _) hb)
  clear hb
  go_wp2_with fail
  refine (hS _).mono ?_
  rintro e w2 ⟨rfl, hb⟩
  have HB2 := Aside0.mk (below_chain HB1.out hb)
  have HG2 := Aside0.mk (blk_below HG1.out hb)
  clear hb HB1 HG1 hS
  have g0 := fun o => ((blk_cell (blk_alloc HG2.out o) 0).trans rfl : (World.alloc w2 o).cell? _ = some (.int .i64 (k 0)))
  have g1 := fun o => ((blk_cell (blk_alloc HG2.out o) 1).trans rfl : (World.alloc w2 o).cell? _ = some (.int .i64 (k 1)))
  have g2 := fun o => ((blk_cell (blk_alloc HG2.out o) 2).trans rfl : (World.alloc w2 o).cell? _ = some (.int .i64 (k 2)))
  have g3 := fun o => ((blk_cell (blk_alloc HG2.out o) 3).trans rfl : (World.alloc w2 o).cell? _ = some (.int .i64 (k 3)))
  go_wp2_with fail
  refine (hK _).mono ?_
  rintro e w3 ⟨rfl, hb⟩
  have HB3 := Aside0.mk (below_chain (below_alloc HB2.out _) hb)
  have HR3 := Aside0.mk (show w3.heap[w2.heap.size]? = some (.cells #[.int .i64 (r 0), .int .i64 (r 1), .int .i64 (r 2), .int .i64 (r 3)] 28 (0, 0)) from blk_below (heap_alloc_new w2 _) hb)
  clear hb HB2 HG2 hK g0 g1 g2 g3
  go_wp2_with fail
  refine (hI _).mono ?_
  rintro e w4 ⟨rfl, hb⟩
  have HB4 := Aside0.mk (below_chain HB3.out hb)
  have HR4 := Aside0.mk (blk_below HR3.out hb)
  clear hb HB3 HR3 hI
  have r0 := fun o => ((blk_cell (blk_alloc HR4.out o) 0).trans rfl : (World.alloc w4 o).cell? _ = some (.int .i64 (r 0)))
  have f0 := fun o => blk_frozen (blk_alloc HR4.out o) 0
  have r1 := fun o => ((blk_cell (blk_alloc HR4.out o) 1).trans rfl : (World.alloc w4 o).cell? _ = some (.int .i64 (r 1)))
  have f1 := fun o => blk_frozen (blk_alloc HR4.out o) 1
  have r2 := fun o => ((blk_cell (blk_alloc HR4.out o) 2).trans rfl : (World.alloc w4 o).cell? _ = some (.int .i64 (r 2)))
  have f2 := fun o => blk_frozen (blk_alloc HR4.out o) 2
  have r3 := fun o => ((blk_cell (blk_alloc HR4.out o) 3).trans rfl : (World.alloc w4 o).cell? _ = some (.int .i64 (r 3)))
  have f3 := fun o => blk_frozen (blk_alloc HR4.out o) 3
  go_wp2_with fail
  refine (eqKit_same r _).mono ?_
  rintro e w5 ⟨rfl, hb⟩
  have HB5 := Aside0.mk (below_chain (below_alloc HB4.out _) hb)
  clear hb HB4 HR4 r0 r1 r2 r3 f0 f1 f2 f3
  go_wp2_with fail
  go_ret
  exact ⟨rfl, HB5.out⟩
end Go.Proofs.Ytohbmlhaaagfhaa
