/- Contract: a plan is run as far as it runs. No statement of the seat is proved here. -/
import Derived.Test.YtohbmlhaaagfhaaPlan0
import Derived.Deep.RegionLaw
import Derived.Deep.DeepCutAuto
import Derived.Deep.LoopGhost
import Derived.Test.YtohbmlhaaagfhaaWLast
namespace Go.Proofs.Ytohbmlhaaagfhaa
open Go.RowKit Go.Proofs.YtohbmlhaaagfhaaW.PrintWords Go.Proofs.YtohbmlhaaagfhaaW.PrintLast
set_option linter.unusedVariables false
set_option linter.unusedSimpArgs false
theorem infoI : (Try.prog.info? 3).map (fun i => (i.zero, i.size, i.bytes)) = some (some (.int .i64 0), 1, 8) := by kernel_rfl
/-- the times of a plan as far as it runs, from some times on, and the sand then -/
def runGo (K : Nat → Int) : List Int → List Int → (Nat → Int) → List Int × (Nat → Int)
  | [], T, s => (T, s)
  | set :: rest, T, s => if stepD K s set = 0 then (T, s) else runGo K rest (T ++ [wrap64 (rd T ((T.length : Int) - 1) + stepD K s set)]) (stepS K s set)
def xRun.f (a0_0 a0_1 a0_2 a0_3 a1_0 a1_1 a1_2 a1_3 : Int) (l2 : List Int) : Option (List Int × Int × Int × Int × Int) :=
  if (isKitB (v4 a0_0 a0_1 a0_2 a0_3) && isSandB (v4 a0_0 a0_1 a0_2 a0_3) (v4 a1_0 a1_1 a1_2 a1_3) && decide (l2.length ≤ 12)) = true then
    some ((runGo (v4 a0_0 a0_1 a0_2 a0_3) l2 [0] (v4 a1_0 a1_1 a1_2 a1_3)).1, (runGo (v4 a0_0 a0_1 a0_2 a0_3) l2 [0] (v4 a1_0 a1_1 a1_2 a1_3)).2 0, (runGo (v4 a0_0 a0_1 a0_2 a0_3) l2 [0] (v4 a1_0 a1_1 a1_2 a1_3)).2 1, (runGo (v4 a0_0 a0_1 a0_2 a0_3) l2 [0] (v4 a1_0 a1_1 a1_2 a1_3)).2 2, (runGo (v4 a0_0 a0_1 a0_2 a0_3) l2 [0] (v4 a1_0 a1_1 a1_2 a1_3)).2 3)
  else none
abbrev Blk (w : World) (b : Nat) (g : Nat → Int) (t : TypeId) : Prop := w.heap[b]? = some (.cells #[.int .i64 (g 0), .int .i64 (g 1), .int .i64 (g 2), .int .i64 (g 3)] t (0, 0))
theorem Blk.c0 {w : World} {b : Nat} {g : Nat → Int} {t : TypeId} (h : Blk w b g t) : w.cell? ⟨b, 0, none⟩ = some (.int .i64 (g 0)) := (blk_cell h 0).trans rfl
theorem Blk.c1 {w : World} {b : Nat} {g : Nat → Int} {t : TypeId} (h : Blk w b g t) : w.cell? ⟨b, 1, none⟩ = some (.int .i64 (g 1)) := (blk_cell h 1).trans rfl
theorem Blk.c2 {w : World} {b : Nat} {g : Nat → Int} {t : TypeId} (h : Blk w b g t) : w.cell? ⟨b, 2, none⟩ = some (.int .i64 (g 2)) := (blk_cell h 2).trans rfl
theorem Blk.c3 {w : World} {b : Nat} {g : Nat → Int} {t : TypeId} (h : Blk w b g t) : w.cell? ⟨b, 3, none⟩ = some (.int .i64 (g 3)) := (blk_cell h 3).trans rfl
theorem Blk.fr {w : World} {b : Nat} {g : Nat → Int} {t : TypeId} (h : Blk w b g t) (j : Nat) : w.frozen? ⟨b, j, none⟩ = false := blk_frozen h j
theorem R_four {w : World} {e g base : Nat} {cs : Array Value} {t : TypeId} {ok : Nat → Prop} {v x0 x1 x2 x3 : Value} {xs : List Int} (h : Kd.R (Kd.int .i64) e w base ok v xs) (hb : w.heap[g]? = some (.cells cs t (0, 0))) (ht : e ≠ t) :
    Kd.R (Kd.int .i64) e ((((w.setCell ⟨g, 0, none⟩ x0).setCell ⟨g, 1, none⟩ x1).setCell ⟨g, 2, none⟩ x2).setCell ⟨g, 3, none⟩ x3) base ok v xs := by
  have q : ∀ q, q ∈ e :: (Kd.int .i64).E → q ≠ t := by
    intro q hq
    rcases List.mem_cons.1 hq with h | h
    · subst h; exact ht
    · cases h
  exact Kd.R_set (Kd.R_set (Kd.R_set (Kd.R_set h hb q 0 x0) (blk_set hb 0 x0) q 1 x1) (blk_set (blk_set hb 0 x0) 1 x1) q 2 x2) (blk_set (blk_set (blk_set hb 0 x0) 1 x1) 2 x2) q 3 x3
theorem R_drew {α : Type} {d : Kd α} {w : World} {e base : Nat} {ok : Nat → Prop} {v : Value} {xs : List α} (h : d.R e w base ok v xs) : d.R e w.drew base ok v xs := Kd.R_step h (fun _ _ _ => rfl)
theorem drew_alloc (W : World) (o : Obj) : (W.alloc o).drew = W.drew.alloc o := rfl
theorem Blk.four {w : World} {b : Nat} {g h : Nat → Int} {t : TypeId} (hb : Blk w b g t) : Blk ((((w.setCell ⟨b, 0, none⟩ (.int .i64 (h 0))).setCell ⟨b, 1, none⟩ (.int .i64 (h 1))).setCell ⟨b, 2, none⟩ (.int .i64 (h 2))).setCell ⟨b, 3, none⟩ (.int .i64 (h 3))) b h t := by
  have := blk_set (blk_set (blk_set (blk_set hb 0 (.int .i64 (h 0))) 1 (.int .i64 (h 1))) 2 (.int .i64 (h 2))) 3 (.int .i64 (h 3))
  simpa using this
theorem Blk.far {w : World} {b b' : Nat} {g : Nat → Int} {t : TypeId} {x0 x1 x2 x3 : Value} (h : Blk w b g t) (hne : b ≠ b') : Blk ((((w.setCell ⟨b', 0, none⟩ x0).setCell ⟨b', 1, none⟩ x1).setCell ⟨b', 2, none⟩ x2).setCell ⟨b', 3, none⟩ x3) b g t :=
  blk_far (p := ⟨b', 3, none⟩) (blk_far (p := ⟨b', 2, none⟩) (blk_far (p := ⟨b', 1, none⟩) (blk_far (p := ⟨b', 0, none⟩) h hne x0) hne x1) hne x2) hne x3
theorem bl_four' {B : Nat} {w W : World} {b : Nat} {x0 x1 x2 x3 : Value} (h : Below B w W) (hl : B ≤ b) : Below B w ((((W.setCell ⟨b, 0, none⟩ x0).setCell ⟨b, 1, none⟩ x1).setCell ⟨b, 2, none⟩ x2).setCell ⟨b, 3, none⟩ x3) :=
  (((h.setCell (p := ⟨b, 0, none⟩) hl x0).setCell (p := ⟨b, 1, none⟩) hl x1).setCell (p := ⟨b, 2, none⟩) hl x2).setCell (p := ⟨b, 3, none⟩) hl x3
set_option maxHeartbeats 1600000 in
theorem run_any (k s : Nat → Int) (A0 : Option Addr) (c0 : Nat) (l0 : List Int) (w : World) (hs : Sand k s) (hl : l0.length ≤ 12) (hr0 : Kd.C (Kd.int .i64) w A0 l0.length l0) (hc0 : l0.length ≤ c0) :
    Calls Try.prog 34 #[A4 k, A4 s, .slice A0 l0.length c0] w fun e w' => ∃ v0 : Value, e = .returned (.tuple #[v0, A4 (runGo k l0 [0] s).2]) ∧ Kd.R (Kd.int .i64) 3 w' w.heap.size (fun _ => True) v0 (runGo k l0 [0] s).1 ∧ Below w.heap.size w w' := by
  have HR0 := Aside0.mk hr0
  have HC0 := Aside0.mk hc0
  have HS := Aside0.mk hs
  clear hr0 hc0 hs
  go_enter Try.func34, Try.ntmps34
  go_wp2_with fail
  go_loopw [8, 16] (fun v8 v16 wr => ∃ (j : Nat) (T : List Int) (s1 : Nat → Int), v16 = .int .i64 j ∧ j ≤ l0.length ∧ Aside0 (T.length = j + 1) ∧ Aside0 (runGo k (l0.drop j) T s1 = runGo k l0 [0] s) ∧ Aside0 (Sand k s1) ∧ Aside0 (Kd.R (Kd.int .i64) 3 wr w.heap.size (fun _ => True) v8 T) ∧ Aside0 (Blk wr w.heap.size k 28) ∧ Aside0 (Blk wr (w.heap.size + 1) s1 22) ∧ Aside0 (Blk wr (w.heap.size + 1 + 1) (fun _ => 0) 22) ∧ Aside0 (Below w.heap.size w wr)) (fun _ v16 _ => l0.length - (intOf v16).toNat)
  case atStart =>
    refine ⟨0, [0], s, rfl, by omega, ⟨rfl⟩, ⟨rfl⟩, HS, ⟨?_⟩, ⟨?_⟩, ⟨?_⟩, ⟨?_⟩, ⟨?_⟩⟩
    · exact Kd.R_of_own (enc := Value.int .i64) (by simpa [nums, encs] using own_lit (((w.alloc (.cells #[.int .i64 (k 0), .int .i64 (k 1), .int .i64 (k 2), .int .i64 (k 3)] 28)).alloc (.cells #[.int .i64 (s 0), .int .i64 (s 1), .int .i64 (s 2), .int .i64 (s 3)] 22)).alloc (.cells #[.int .i64 0, .int .i64 0, .int .i64 0, .int .i64 0] 22)) w.heap.size 3 .i64 [0] (by simp; omega) (by simp)) (fun _ _ => trivial)
    · exact blk_alloc (blk_alloc (blk_alloc (heap_alloc_new w _) _) _) _
    · exact blk_alloc (blk_alloc (by simpa using heap_alloc_new (w.alloc (.cells #[.int .i64 (k 0), .int .i64 (k 1), .int .i64 (k 2), .int .i64 (k 3)] 28)) (.cells #[.int .i64 (s 0), .int .i64 (s 1), .int .i64 (s 2), .int .i64 (s 3)] 22)) _) _
    · exact blk_alloc (by simpa using heap_alloc_new ((w.alloc (.cells #[.int .i64 (k 0), .int .i64 (k 1), .int .i64 (k 2), .int .i64 (k 3)] 28)).alloc (.cells #[.int .i64 (s 0), .int .i64 (s 1), .int .i64 (s 2), .int .i64 (s 3)] 22)) (.cells #[.int .i64 0, .int .i64 0, .int .i64 0, .int .i64 0] 22)) _
    · exact below_alloc (below_alloc (below_alloc (below_alloc (Below.refl _ _) _) _) _) _
  case round =>
    obtain ⟨j, T, s1, rfl, hj, HT, HG, HS1, HR, HK, HA, HZ, HB⟩ := hrel
    by_cases c : j < l0.length
    · have c1 : decide ((j : Int) < (l0.length : Int)) = true := decide_eq_true (by omega)
      have c2 : decide (j < l0.length) = true := decide_eq_true c
      obtain ⟨ad, e0, hx⟩ := Kd.at_int (Kd.C_below HR0.out HB.out) (j : Int) (by omega) (by omega)
      cases e0
      have p0 : (0 : Int) ≤ (j : Int) := by omega
      have hx' : wr.cell? (ad.add j) = some (.int .i64 (rd l0 (j : Int))) := by simpa using hx
      have er : l0.drop j = rd l0 (j : Int) :: l0.drop (j + 1) := by
        rw [List.drop_eq_getElem_cons c]; simp [rd, List.getD_eq_getElem?_getD, List.getElem?_eq_getElem c]
      have hG := HG.out
      rw [er] at hG
      have HG2 := Aside0.mk hG
      clear hG er hx
      obtain ⟨x, hxx⟩ : ∃ x, x = rd l0 (j : Int) := ⟨_, rfl⟩
      rw [← hxx] at hx' HG2
      clear hxx
      have k0 := HK.out.c0
      have k1 := HK.out.c1
      have k2 := HK.out.c2
      have k3 := HK.out.c3
      have a0 := HA.out.c0
      have a1 := HA.out.c1
      have a2 := HA.out.c2
      have a3 := HA.out.c3
      go_wp2_with fail
      refine (step_any k s1 x HS1.out _).mono ?_
      rintro e w1 ⟨rfl, hb⟩
      have HB1 := Aside0.mk (below_chain HB.out hb)
      have HK1 := Aside0.mk (show Blk w1 w.heap.size k 28 from blk_below HK.out hb)
      have HA1 := Aside0.mk (show Blk w1 (w.heap.size + 1) s1 22 from blk_below HA.out hb)
      have HZ1 := Aside0.mk (show Blk w1 (w.heap.size + 1 + 1) (fun _ => 0) 22 from blk_below HZ.out hb)
      have HR1 := Aside0.mk (Kd.R_below HR.out hb)
      clear hb k0 k1 k2 k3 a0 a1 a2 a3 hx'
      have HW1 := Aside0.mk HB1.out.size
      cases z : (stepD k s1 x == 0)
      · have zz : ¬ stepD k s1 x = 0 := by simpa using z
        have hG := HG2.out
        rw [runGo, if_neg zz] at hG
        have HG3 := Aside0.mk hG
        clear hG zz
        obtain ⟨A, cp, rfl, hcp, hC⟩ := Kd.R_reads HR1.out
        obtain ⟨at1, e1, ht⟩ := Kd.at_int hC (j : Int) (by omega) (by have := HT.out; omega)
        cases e1
        have HCP := Aside0.mk hcp
        have ht' : w1.cell? (at1.add j) = some (.int .i64 (rd T (j : Int))) := by simpa using ht
        have jT : (j : Int) < (T.length : Int) := by have := HT.out; omega
        have jN : j < T.length := by have := HT.out; omega
        have jL : decide (j < T.length) = true := decide_eq_true jN
        have hwr := World.block_lt_of_cell? _ _ ht'
        clear hcp hC ht
        have n0 : w.heap.size < w1.heap.size := blk_lt HK1.out
        have n1 : w.heap.size + 1 < w1.heap.size := blk_lt HA1.out
        have n2 : w.heap.size + 1 + 1 < w1.heap.size := blk_lt HZ1.out
        have a0 := HA1.out.c0
        have a1 := HA1.out.c1
        have a2 := HA1.out.c2
        have a3 := HA1.out.c3
        have g0 := HA1.out.fr 0
        have g1 := HA1.out.fr 1
        have g2 := HA1.out.fr 2
        have g3 := HA1.out.fr 3
        go_wp2_with fail
        go_region_law ((rw [drew_alloc]; refine Kd.R_append_step (Kd.int .i64) (w0 := w) w.heap.size (by rfl) (.tmp 30) (.tmp 37) 25 3 (.int .i64 0) 8 rfl Try.underlying25 infoI rfl (by decide) (by decide) _ T _ [_] (fun _ => True) (fun _ => False) rfl (by show Value.slice (some ⟨w1.heap.size + 1, 0, none⟩) 1 1 = _; simp) rfl (fun _ h => h.elim) (fun _ _ => trivial) (R_drew (Kd.R_below HR1.out (below_alloc (Below.refl _ _) _))) (Below.drew (below_alloc HB1.out _)) (by simp; omega) (by have := HT.out; omega) ?_; intro v1 w2 hO2 hB2 hg2 hat2; have HO2 := Aside0.mk hO2; have HB2 := Aside0.mk hB2; have hne := fun (b : Nat) (cs : Array Value) (t : TypeId) (hb : (w1.alloc (.cells #[.int .i64 (stepS k s1 x 0), .int .i64 (stepS k s1 x 1), .int .i64 (stepS k s1 x 2), .int .i64 (stepS k s1 x 3)] 22)).drew.heap[b]? = some (.cells cs t (0, 0))) (ht : 3 ≠ t) => Kd.R_ne (R_drew (Kd.R_below HR1.out (below_alloc (Below.refl _ _) (.cells #[.int .i64 (stepS k s1 x 0), .int .i64 (stepS k s1 x 1), .int .i64 (stepS k s1 x 2), .int .i64 (stepS k s1 x 3)] 22)))) hb ht; have HK2 := Aside0.mk (show Blk w2 w.heap.size k 28 from blk_grown (show (w1.alloc (.cells #[.int .i64 (stepS k s1 x 0), .int .i64 (stepS k s1 x 1), .int .i64 (stepS k s1 x 2), .int .i64 (stepS k s1 x 3)] 22)).drew.heap[w.heap.size]? = _ from blk_alloc HK1.out _) hg2 (hne _ _ _ (blk_alloc HK1.out _) (by decide))); have HA2 := Aside0.mk (show Blk w2 (w.heap.size + 1) s1 22 from blk_grown (show (w1.alloc (.cells #[.int .i64 (stepS k s1 x 0), .int .i64 (stepS k s1 x 1), .int .i64 (stepS k s1 x 2), .int .i64 (stepS k s1 x 3)] 22)).drew.heap[w.heap.size + 1]? = _ from blk_alloc HA1.out _) hg2 (hne _ _ _ (blk_alloc HA1.out _) (by decide))); have HZ2 := Aside0.mk (show Blk w2 (w.heap.size + 1 + 1) (fun _ => 0) 22 from blk_grown (show (w1.alloc (.cells #[.int .i64 (stepS k s1 x 0), .int .i64 (stepS k s1 x 1), .int .i64 (stepS k s1 x 2), .int .i64 (stepS k s1 x 3)] 22)).drew.heap[w.heap.size + 1 + 1]? = _ from blk_alloc HZ1.out _) hg2 (hne _ _ _ (blk_alloc HZ1.out _) (by decide))); have HX2 := Aside0.mk (show Blk w2 w1.heap.size (stepS k s1 x) 22 from blk_grown (show (w1.alloc (.cells #[.int .i64 (stepS k s1 x 0), .int .i64 (stepS k s1 x 1), .int .i64 (stepS k s1 x 2), .int .i64 (stepS k s1 x 3)] 22)).drew.heap[w1.heap.size]? = _ from heap_alloc_new w1 _) hg2 (hne _ _ _ (heap_alloc_new w1 _) (by decide))); have p0 := HA2.out.c0; have p1 := HA2.out.c1; have p2 := HA2.out.c2; have p3 := HA2.out.c3; have q0 := HX2.out.c0; have q1 := HX2.out.c1; have q2 := HX2.out.c2; have q3 := HX2.out.c3; have e0 := HA2.out.fr 0; have e1 := HA2.out.fr 1; have e2 := HA2.out.fr 2; have e3 := HA2.out.fr 3; clear hO2 hB2 hg2 hat2 hne))
        all_goals
          go_wp2_with fail
          go_roundw
          case rel =>
            refine ⟨j + 1, _, _, by go_num, by omega, ⟨?_⟩, ⟨?_⟩, ⟨HS1.out.step x⟩, ⟨R_four HO2.out HA2.out (by decide)⟩, ⟨Blk.far HK2.out (by omega)⟩, ⟨Blk.four HA2.out⟩, ⟨Blk.far HZ2.out (by omega)⟩, ⟨bl_four' HB2.out (by omega)⟩⟩
            · have := HT.out; simp; omega
            · rw [← HG3.out]
              have eT : (T.length : Int) - 1 = (j : Int) := by have := HT.out; omega
              rw [eT]; simp only [i64_w]
          case measure => simp [intOf]; omega
      · have zz : stepD k s1 x = 0 := by simpa using z
        have hG := HG2.out
        rw [runGo, if_pos zz] at hG
        have HG3 := Aside0.mk hG
        clear hG zz
        have hn : w.heap.size + 1 + 1 < w1.heap.size := blk_lt HZ1.out
        have hn1 : w.heap.size + 1 < w1.heap.size := blk_lt HA1.out
        have z0 := HZ1.out.c0
        have z1 := HZ1.out.c1
        have z2 := HZ1.out.c2
        have z3 := HZ1.out.c3
        have f0 := HZ1.out.fr 0
        have f1 := HZ1.out.fr 1
        have f2 := HZ1.out.fr 2
        have f3 := HZ1.out.fr 3
        have a0 := HA1.out.c0
        have a1 := HA1.out.c1
        have a2 := HA1.out.c2
        have a3 := HA1.out.c3
        go_wp2_with fail
        go_region
        go_wp2_with fail
        have hfin := HG3.out
        refine bodyPost_ret (v := .tuple #[_, A4 (runGo k l0 [0] s).2]) (by rw [← hfin]; simp [results, Try.results34, go_sem, *]; rfl) rfl ⟨_, rfl, ?_, ?_⟩
        · rw [← hfin]; exact R_drew (Kd.R_below (R_four HR1.out HZ1.out (by decide)) (below_alloc (Below.refl _ _) _))
        · exact Below.drew (below_alloc (bl_four' HB1.out (by omega)) _)
    · have c1 : decide ((j : Int) < (l0.length : Int)) = false := decide_eq_false (by omega)
      have c2 : decide (j < l0.length) = false := decide_eq_false c
      have hG : (T, s1) = runGo k l0 [0] s := by rw [← HG.out, List.drop_eq_nil_of_le (by omega)]; rfl
      have HG2 := Aside0.mk hG
      clear hG
      have a0 := HA.out.c0
      have a1 := HA.out.c1
      have a2 := HA.out.c2
      have a3 := HA.out.c3
      have z0 := HZ.out.c0
      have z1 := HZ.out.c1
      have z2 := HZ.out.c2
      have z3 := HZ.out.c3
      have f0 := HZ.out.fr 0
      have f1 := HZ.out.fr 1
      have f2 := HZ.out.fr 2
      have f3 := HZ.out.fr 3
      go_wp2_with fail
      go_region
      go_wp2_with fail
      have hfin := HG2.out
      refine bodyPost_ret (v := .tuple #[_, A4 (runGo k l0 [0] s).2]) (by rw [← hfin]; simp [results, Try.results34, go_sem, *]; rfl) rfl ⟨_, rfl, ?_, ?_⟩
      · rw [← hfin]; exact R_drew (R_four HR.out HZ.out (by decide))
      · exact Below.drew (bl_four' HB.out (by omega))
theorem xRun.calls (a0_0 a0_1 a0_2 a0_3 a1_0 a1_1 a1_2 a1_3 : Int) (A2 : Option Addr) (c2 : Nat) (l2 : List Int) (r1 : List Int) (r2 r3 r4 r5 : Int) (w : World) (hr2 : Kd.C (Kd.int .i64) w A2 l2.length l2) (hc2 : l2.length ≤ c2)
    (h : xRun.f a0_0 a0_1 a0_2 a0_3 a1_0 a1_1 a1_2 a1_3 l2 = some (r1, r2, r3, r4, r5)) :
    Calls Try.prog 34 #[.agg #[.int .i64 a0_0, .int .i64 a0_1, .int .i64 a0_2, .int .i64 a0_3], .agg #[.int .i64 a1_0, .int .i64 a1_1, .int .i64 a1_2, .int .i64 a1_3], .slice A2 l2.length c2] w
      fun e w' => ∃ v0_ : Value, e = .returned (.tuple #[v0_, .agg #[.int .i64 r2, .int .i64 r3, .int .i64 r4, .int .i64 r5]]) ∧ Kd.R (Kd.int .i64) 3 w' w.heap.size (fun _ => True) v0_ r1 ∧ Below w.heap.size w w' := by
  unfold xRun.f at h
  by_cases g : (isKitB (v4 a0_0 a0_1 a0_2 a0_3) && isSandB (v4 a0_0 a0_1 a0_2 a0_3) (v4 a1_0 a1_1 a1_2 a1_3) && decide (l2.length ≤ 12)) = true
  · rw [if_pos g] at h
    simp only [Option.some.injEq, Prod.mk.injEq] at h
    obtain ⟨rfl, rfl, rfl, rfl, rfl⟩ := h
    rw [Bool.and_eq_true, decide_eq_true_eq] at g
    exact run_any (v4 a0_0 a0_1 a0_2 a0_3) (v4 a1_0 a1_1 a1_2 a1_3) A2 c2 l2 w (sand_of' g.1) g.2 hr2 hc2
  · rw [if_neg g] at h; cases h
end Go.Proofs.Ytohbmlhaaagfhaa
