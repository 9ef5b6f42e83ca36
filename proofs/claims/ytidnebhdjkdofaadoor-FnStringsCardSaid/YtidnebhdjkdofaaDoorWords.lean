/- numbersText (Door seat). No statement of the seat is proved here. -/
import Derived.Test.YtidnebhdjkdofaaDoorText
import Derived.Test.YtidnebhdjkdofaaDoorJoinD
namespace Go.Proofs.YtidnebhdjkdofaaDoor
open Go.RowKit Go.Proofs.YtidnebhdjkdofaaDoorW.PrintWords Go.Proofs.YtidnebhdjkdofaaDoorW.PrintLast
set_option linter.unusedVariables false
set_option linter.unusedSimpArgs false
theorem infoS : (Tryd.prog.info? 9).map (fun i => (i.zero, i.size, i.bytes)) = some (some (.string ⟨#[]⟩), 1, 16) := by kernel_rfl
theorem joinB_kit (k : Nat → Int) : joinB spB [textB (k 0), textB (k 1), textB (k 2), textB (k 3)] = kitB k := by
  unfold kitB joinB joinGo joinGo joinGo joinGo
  rw [empty_append]
theorem kitB_size {k : Nat → Int} (hk : isKitB k = true) : (kitB k).size ≤ 140737488355328 := by
  have s0 := text_size30 (kit_bounds hk 0 (by omega))
  have s1 := text_size30 (kit_bounds hk 1 (by omega))
  have s2 := text_size30 (kit_bounds hk 2 (by omega))
  have s3 := text_size30 (kit_bounds hk 3 (by omega))
  unfold kitB spB
  rw [empty_append]
  simp only [ByteArray.size_append]
  have o : (⟨#[32]⟩ : ByteArray).size = 1 := rfl
  rw [o]
  omega
set_option maxHeartbeats 1600000 in
theorem numbersText_any (k : Nat → Int) (hk : isKitB k = true) (g : Nat) (w : World) (hw : w.heap[g]? = some (.cells #[.int .i64 (k 0), .int .i64 (k 1), .int .i64 (k 2), .int .i64 (k 3)] 49 (0, 0))) (ht : Tab w) :
    Calls Tryd.prog 67 #[.slice (some ⟨g, 0, none⟩) 4 4] w fun e w' => e = .returned (.string (kitB k)) ∧ Below w.heap.size w w' := by
  have HW := Aside0.mk hw
  have HT := Aside0.mk ht
  clear hw ht
  go_enter Tryd.func67, Tryd.ntmps67
  go_wp2_with fail
  go_loopw [3, 9] (fun v3 v9 wr => ∃ j : Nat, j ≤ 4 ∧ v9 = .int .i64 j ∧ Aside0 (Kd.R Kd.string 9 wr w.heap.size (fun _ => True) v3 (([textB (k 0), textB (k 1), textB (k 2), textB (k 3)] : List ByteArray).take j)) ∧ Aside0 (Below w.heap.size w wr)) (fun _ v9 _ => 4 - (intOf v9).toNat)
  case atStart =>
    refine ⟨0, by omega, rfl, ⟨?_⟩, ⟨below_alloc (Below.refl _ _) _⟩⟩
    exact Kd.R_of_own (enc := Value.string) ⟨rfl, Or.inr ⟨w.heap.size, 0, #[], rfl, Nat.le_refl _, heap_alloc_new w _, Nat.le_refl _, by simp, rfl, rfl⟩⟩ (fun _ _ => trivial)
  case round =>
    obtain ⟨j, hj, rfl, HR, HB⟩ := hrel
    have HG := Aside0.mk ((HB.out.block g (blk_lt HW.out)).trans HW.out)
    have hI : ∀ j, j < 4 → ∀ W, Below w.heap.size w W → Calls Tryd.prog 46 #[.int .i64 (k j)] W fun e w' => e = .returned (.string (textB (k j))) ∧ Below W.heap.size W w' := fun j hj W hb => by
      have b := kit_bounds hk j hj
      exact (Tryd.strconv_Itoa (k j) (by omega) (by omega) W (tab_keep HT.out hb)).mono fun e w' ⟨he, q, os, hw⟩ => ⟨he, by rw [hw]; exact grow_below W q os⟩
    obtain rfl | rfl | rfl | rfl | rfl : j = 0 ∨ j = 1 ∨ j = 2 ∨ j = 3 ∨ j = 4 := by omega
    · have a := (blk_cell HG.out 0).trans rfl
      have hn := hI 0 (by omega)
      go_wp2_with (first | (go_at_call 46; refine (hn _ HB.out).mono ?_; rintro e w1 ⟨rfl, hb⟩; have HR1 := Aside0.mk (Kd.R_below HR.out hb); have HB1 := Aside0.mk (below_chain HB.out hb); clear hb) | (at_builtin; refine Kd.R_append Kd.string (w0 := w) w.heap.size rfl (.tmp 13) (.tmp 16) 25 9 (.string ⟨#[]⟩) 16 rfl Tryd.underlying25 infoS rfl (by decide) (by omega) _ _ _ [_] (fun _ => True) (fun _ => False) rfl (by first | (go_simp; done) | (go_simp; rfl)) rfl (fun _ h => h.elim) (fun _ _ => trivial) HR1.out HB1.out HB1.out.size (by simp) ?_; intro v1 w3 hO3 hB3 hg3 hat3; have HO4 := Aside0.mk hO3; have HB4 := Aside0.mk hB3; clear hO3 hB3 hg3 hat3) | fail)
      refine ⟨⟨1, by omega, rfl, HO4, HB4⟩, by simp [intOf]⟩
    · have a := (blk_cell HG.out 1).trans rfl
      have hn := hI 1 (by omega)
      go_wp2_with (first | (go_at_call 46; refine (hn _ HB.out).mono ?_; rintro e w1 ⟨rfl, hb⟩; have HR1 := Aside0.mk (Kd.R_below HR.out hb); have HB1 := Aside0.mk (below_chain HB.out hb); clear hb) | (at_builtin; refine Kd.R_append Kd.string (w0 := w) w.heap.size rfl (.tmp 13) (.tmp 16) 25 9 (.string ⟨#[]⟩) 16 rfl Tryd.underlying25 infoS rfl (by decide) (by omega) _ _ _ [_] (fun _ => True) (fun _ => False) rfl (by first | (go_simp; done) | (go_simp; rfl)) rfl (fun _ h => h.elim) (fun _ _ => trivial) HR1.out HB1.out HB1.out.size (by simp) ?_; intro v1 w3 hO3 hB3 hg3 hat3; have HO4 := Aside0.mk hO3; have HB4 := Aside0.mk hB3; clear hO3 hB3 hg3 hat3) | fail)
      refine ⟨⟨2, by omega, rfl, HO4, HB4⟩, by simp [intOf]⟩
    · have a := (blk_cell HG.out 2).trans rfl
      have hn := hI 2 (by omega)
      go_wp2_with (first | (go_at_call 46; refine (hn _ HB.out).mono ?_; rintro e w1 ⟨rfl, hb⟩; have HR1 := Aside0.mk (Kd.R_below HR.out hb); have HB1 := Aside0.mk (below_chain HB.out hb); clear hb) | (at_builtin; refine Kd.R_append Kd.string (w0 := w) w.heap.size rfl (.tmp 13) (.tmp 16) 25 9 (.string ⟨#[]⟩) 16 rfl Tryd.underlying25 infoS rfl (by decide) (by omega) _ _ _ [_] (fun _ => True) (fun _ => False) rfl (by first | (go_simp; done) | (go_simp; rfl)) rfl (fun _ h => h.elim) (fun _ _ => trivial) HR1.out HB1.out HB1.out.size (by simp) ?_; intro v1 w3 hO3 hB3 hg3 hat3; have HO4 := Aside0.mk hO3; have HB4 := Aside0.mk hB3; clear hO3 hB3 hg3 hat3) | fail)
      refine ⟨⟨3, by omega, rfl, HO4, HB4⟩, by simp [intOf]⟩
    · have a := (blk_cell HG.out 3).trans rfl
      have hn := hI 3 (by omega)
      go_wp2_with (first | (go_at_call 46; refine (hn _ HB.out).mono ?_; rintro e w1 ⟨rfl, hb⟩; have HR1 := Aside0.mk (Kd.R_below HR.out hb); have HB1 := Aside0.mk (below_chain HB.out hb); clear hb) | (at_builtin; refine Kd.R_append Kd.string (w0 := w) w.heap.size rfl (.tmp 13) (.tmp 16) 25 9 (.string ⟨#[]⟩) 16 rfl Tryd.underlying25 infoS rfl (by decide) (by omega) _ _ _ [_] (fun _ => True) (fun _ => False) rfl (by first | (go_simp; done) | (go_simp; rfl)) rfl (fun _ h => h.elim) (fun _ _ => trivial) HR1.out HB1.out HB1.out.size (by simp) ?_; intro v1 w3 hO3 hB3 hg3 hat3; have HO4 := Aside0.mk hO3; have HB4 := Aside0.mk hB3; clear hO3 hB3 hg3 hat3) | fail)
      refine ⟨⟨4, by omega, rfl, HO4, HB4⟩, by simp [intOf]⟩
    · have eT : List.take 4 ([textB (k 0), textB (k 1), textB (k 2), textB (k 3)] : List ByteArray) = [textB (k 0), textB (k 1), textB (k 2), textB (k 3)] := rfl
      have hR := HR.out
      rw [eT] at hR
      obtain ⟨A, cp, rfl, hcp, hC⟩ := Kd.R_reads hR
      have J := xJoin.calls A cp [textB (k 0), textB (k 1), textB (k 2), textB (k 3)] spB (kitB k) wr hC hcp (by
        unfold xJoin.f
        rw [joinB_kit, if_pos ⟨by simp, kitB_size hk⟩])
      clear hC hcp hR HR hI
      unfold spB at J
      simp only [List.length_cons, List.length_nil, Nat.zero_add] at J ⊢
      go_wp2_with (first | (go_at_call 59; refine J.mono ?_; rintro e w1 ⟨rfl, hb⟩) | fail)
      go_ret
      exact ⟨rfl, below_chain HB.out hb⟩
end Go.Proofs.YtidnebhdjkdofaaDoor
