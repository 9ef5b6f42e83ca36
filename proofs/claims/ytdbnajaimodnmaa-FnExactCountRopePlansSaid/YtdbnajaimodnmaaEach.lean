/- Rope plans: the program's walk over all plans, with the closure that counts. No statement of the seat is proved here. -/
import Derived.Test.YtdbnajaimodnmaaEachP
import Derived.Test.YtdbnajaimodnmaaQPl3
import Derived.Test.YtdbnajaimodnmaaQPl0
import Derived.Laws.Cover3
import Derived.Deep.RegionHeld3
import Derived.Great.Walk
namespace Go.Proofs.Ytdbnajaimodnmaa
open Go.RowKit Go.Proofs.YtdbnajaimodnmaaW.PrintWords Go.Proofs.YtdbnajaimodnmaaW.PrintLast Go.Proofs.Ytdbnajaimodnmaa.QPl
set_option linter.unusedVariables false
set_option linter.unusedSimpArgs false
/-- all is as it was, but one block -/
def KB (w w' : World) (bm : Nat) : Prop := KeepBut w w' bm none ∧ Below 0 w w'
theorem tell_any (T a m : Int) (bt bm : Nat) (A : Option Addr) (n c : Nat) (w : World) (h1 : -4000000000000000000 ≤ m) (h2 : m ≤ 4000000000000000000) (ht : w.cell? ⟨bt, 0, none⟩ = some (.int .i64 T)) (hm : w.heap[bm]? = some (.cells #[.int .i64 m] 3 (0, 0))) :
    Calls Try.prog 49 #[.int .i64 a, .slice A n c, .pointer (some ⟨bt, 0, none⟩), .pointer (some ⟨bm, 0, none⟩)] w fun e w' => e = .returned (.tuple #[]) ∧ KB w w' bm ∧ w'.heap[bm]? = some (.cells #[.int .i64 (m + one T a)] 3 (0, 0)) := by
  have c0 : w.cell? ⟨bm, 0, none⟩ = some (.int .i64 m) := (blk_cell hm 0).trans rfl
  have f0 := blk_frozen hm 0
  have HM := Aside0.mk hm
  clear hm
  have hw : wrap64 (m + 1) = m + 1 := by unfold wrap64; omega
  go_enter Try.func49, Try.ntmps49
  by_cases q : a = T
  · have Q := Aside0.mk q
    have q1 : (a == T) = true := beq_iff_eq.mpr q
    clear q
    go_wp2_with fail
    refine Go.Great.bodyPost_end0 rfl rfl ⟨rfl, ⟨(KeepBut.refl w bm none).set_ 0 _, (Below.refl 0 w).setCell (Nat.zero_le _) _⟩, ?_⟩
    rw [blk_set HM.out 0 (.int .i64 (m + 1)), one, if_pos Q.out]; rfl
  · have Q := Aside0.mk q
    have q1 : (a == T) = false := beq_eq_false_iff_ne.mpr q
    clear q
    go_wp2_with fail
    refine Go.Great.bodyPost_end0 rfl rfl ⟨rfl, ⟨KeepBut.refl w bm none, Below.refl 0 w⟩, ?_⟩
    rw [HM.out, one, if_neg Q.out, Int.natCast_zero, Int.add_zero]
theorem eql_nil (t e : TypeId) (A : Option Addr) (n c : Nat) (h : Try.prog.underlying t = some (.slice e)) (w : World) : (binOp .eql t (.slice A n c) (.slice none 0 0)).run Try.prog w = .ok (.bool A.isNone) w := by
  simp [binOp, run_equal_slice_nil w t e A n c h]
set_option maxRecDepth 100000 in
theorem clone_any (b : Nat) (v : Value) (l : List S36) (w : World) (hr : Kd.R k36 36 w b (fun _ => True) v l) (hv : v = .slice none 0 0 ∧ l = [] ∨ 0 < l.length) (hl : l.length ≤ 100) :
    Calls Try.prog 67 #[v] w fun e w' => ∃ v', e = .returned v' ∧ Kd.R k36 36 w' w.heap.size (fun _ => True) v' l ∧ Below w.heap.size w w' := by
  rcases hv with ⟨rfl, rfl⟩ | hp
  · go_enter Try.func67, Try.ntmps67
    go_wp2_with fail
    rw [eql_nil 39 36 _ _ _ Try.underlying39]
    go_wp2_with fail
    go_ret
    exact ⟨_, rfl, Kd.R_nil _ _ _ _ _, Below.refl _ _⟩
  · obtain ⟨g, cap, rfl, hb, hg, hcs⟩ := Kd.R_form hr hp
    clear hcs
    have HR := Aside0.mk hr
    clear hr
    go_enter Try.func67, Try.ntmps67
    go_wp2_with fail
    rw [eql_nil 39 36 _ _ _ Try.underlying39]
    have hC := (Kd.R_reads' HR.out).2.2
    have HC := Aside0.mk hC
    clear hC
    go_wp2_with (first
      | ((with_reducible refine gate_dst (N := 5) rfl ?_); refine Kd.R_lit k36 w.heap.size 36 ?hg (N := 5) ?hd (w0 := w) (xs := ([] : List S36)) (inner := []) (ok := fun _ => True) (okp := fun _ => True) ?hr ?hp (fun _ hk => hk) trivial (Below.refl _ _) (Nat.le_refl _) (by simp) ?_; (case hd => rfl); (case hg => rfl); (case hr => first | (go_simp; done) | (go_simp; rfl)); (case hp => exact Reps.none _ _); intro v1 w1 ho hb1 hg1 hn1; have HO := Aside0.mk ho; have HB := Aside0.mk hb1; clear ho hb1 hg1 hn1)
      | ((with_reducible refine gate_dst (N := 7) rfl ?_); refine Kd.R_append_rows k36 (w0 := w) w.heap.size rfl (.tmp 5) (.tmp 6) 39 36 (.agg #[(.int .i64 0), (.int .i64 0), (.int .i64 0)]) 24 rfl Try.underlying39 info36 rfl (by decide) (by decide) v1 [] l _ _ _ (fun _ => True) (fun _ => False) rfl rfl HO.out (Kd.C_below HC.out HB.out) (fun _ _ h => h) (fun _ h => h.elim) (fun _ _ => trivial) HB.out (below_size HB.out) (by simp; omega) ?_; intro v2 w2 ho hb2 hg2 hn2; have HO2 := Aside0.mk ho; have HB2 := Aside0.mk hb2; clear ho hb2 hg2 hn2))
    go_ret
    exact ⟨_, rfl, HO2.out, HB2.out⟩
def litL : List S36 := (List.range 27).map fun c => ⟨litC c 0, litC c 1, litC c 2⟩
theorem lightings_f : impl_lightings.f 30 = some litL := by kernel_rfl
theorem litL_len : litL.length = 27 := by simp [litL]
theorem litL_at {j : Nat} (h : j < 27) : rd_T36 litL (j : Int) = ⟨litC j 0, litC j 1, litC j 2⟩ := by
  simp [rd_T36, litL, List.getD_eq_getElem?_getD, List.getElem?_range h]
def Cl (bt bm : Nat) : Value := .func (Fn.func 49) #[] #[.pointer (some ⟨bt, 0, none⟩), .pointer (some ⟨bm, 0, none⟩)]
theorem lightC (f : Nat → Int) (c : Nat) (hf : isRopesB f = true) (w : World) : Calls Try.prog 39 #[A6 f, A3 (litC c)] w fun e w' => e = .returned (.tuple #[A6 (ltC f c), .bool (litsB f (litC c))]) ∧ Below w.heap.size w w' := light_any f (litC c) (rope_of hf) w
theorem burnC (f : Nat → Int) (c : Nat) (w : World) : Calls Try.prog 41 #[A6 (ltC f c), .int .i64 (toldF (ltC f c))] w fun e w' => e = .returned (A6 (nxC f c)) ∧ Below w.heap.size w w' := burn_any (ltC f c) (toldF (ltC f c)) w
/-- what stays known of the memory while the plans are walked -/
structure EW (w : World) (T : Int) (bt bm b4 : Nat) (f : Nat → Int) (A : Option Addr) (cap : Nat) (l : List S36) (b : Nat) (AL : Option Addr) (cL bL : Nat) (wr : World) (m : Int) : Prop where
  keep : KB w wr bm
  hm : wr.heap[bm]? = some (.cells #[.int .i64 m] 3 (0, 0))
  ht : wr.cell? ⟨bt, 0, none⟩ = some (.int .i64 T)
  hf : wr.heap[b4]? = some (.cells #[.int .i64 (f 0), .int .i64 (f 1), .int .i64 (f 2), .int .i64 (f 3), .int .i64 (f 4), .int .i64 (f 5)] 41 (0, 0))
  hr : Kd.R k36 36 wr b (fun _ => True) (.slice A l.length cap) l
  hL : Kd.R k36 36 wr bL (fun _ => True) (.slice AL litL.length cL) litL
section
variable {w : World} {T : Int} {bt bm b4 : Nat} {f : Nat → Int} {A : Option Addr} {cap : Nat} {l : List S36} {b : Nat} {AL : Option Addr} {cL bL : Nat} {wr wr' : World} {m m' : Int}
theorem EW.step (h : EW w T bt bm b4 f A cap l b AL cL bL wr m) (hb : Below wr.heap.size wr wr') : EW w T bt bm b4 f A cap l b AL cL bL wr' m :=
  ⟨⟨h.keep.1.trans (KeepBut.of_below hb _ _) (.inl rfl), h.keep.2.trans (hb.mono (Nat.zero_le _))⟩, blk_below h.hm hb, (hb.cell (World.block_lt_of_cell? _ _ h.ht)).trans h.ht, blk_below h.hf hb, Kd.R_below h.hr hb, Kd.R_below h.hL hb⟩
theorem R_other {v : Value} {xs : List S36} {b : Nat} (h : Kd.R k36 36 wr b (fun _ => True) v xs) (hm : wr.heap[bm]? = some (.cells #[.int .i64 m] 3 (0, 0))) (hk : KeepBut wr wr' bm none) : Kd.R k36 36 wr' b (fun _ => True) v xs :=
  Kd.R_mono (Kd.R_keep (Kd.R_types h hm (fun q hq => by
    have : q = 36 := by
      rcases List.mem_cons.1 hq with h | h
      · exact h
      · exact absurd (show q ∈ ([] : List Nat) from h) List.not_mem_nil
    rw [this]; decide)) hk (fun k hk => hk.2)) (fun _ _ => trivial)
theorem cell_other (h : wr.cell? ⟨bt, 0, none⟩ = some (.int .i64 T)) (hne : bt ≠ bm) (hk : KeepBut wr wr' bm none) : wr'.cell? ⟨bt, 0, none⟩ = some (.int .i64 T) := by
  have := hk.2 bt (World.block_lt_of_cell? _ _ h) hne (by simp)
  unfold World.cell? at *
  rw [this]; exact h
theorem EW.other (h : EW w T bt bm b4 f A cap l b AL cL bL wr m) (hne : bt ≠ bm) (hk : KB wr wr' bm) (hm' : wr'.heap[bm]? = some (.cells #[.int .i64 m'] 3 (0, 0))) : EW w T bt bm b4 f A cap l b AL cL bL wr' m' :=
  ⟨⟨h.keep.1.trans hk.1 (.inl rfl), h.keep.2.trans hk.2⟩, hm', cell_other h.ht hne hk.1, hk.1.blk h.hf (fun e => by have := h.hf; rw [e, h.hm] at this; injection this with this; injection this with _ this; exact absurd this (by decide)) (by simp), R_other h.hr h.hm hk.1, R_other h.hL h.hm hk.1⟩
end
theorem lit_reads {W : World} {g : Nat} {x : S36} (h : W.heap[g]? = some (.cells #[.int .i64 x.f0, .int .i64 x.f1, .int .i64 x.f2] 36 (0, 0))) : Kd.C k36 W (some ⟨g, 0, none⟩) 1 [x] := by
  refine ⟨rfl, by omega, fun _ => ⟨_, rfl, fun j p hj => ?_⟩⟩
  cases j with
  | succ j => simp at hj
  | zero =>
    obtain rfl : x = p := by simpa using hj
    refine ⟨[.int .i64 x.f0, .int .i64 x.f1, .int .i64 x.f2], rfl, k36_mk W x, fun i u hi => ?_⟩
    have e : (⟨g, 0, none⟩ : Addr).add (0 * k36.sz + i) = ⟨g, i, none⟩ := by simp [Addr.add]; exact fun h => h.symm
    rw [e, blk_cell h i]
    simpa using hi
set_option maxHeartbeats 4000000 in
set_option maxRecDepth 100000 in
theorem each_walk (T : Int) (bt bm : Nat) (f : Nat → Int) (a m : Int) (S : Nat → Nat) (l : List S36) (b : Nat) (v : Value) (w : World)
    (hf : isRopesB f = true) (ha : 0 ≤ a ∧ a ≤ 1000000) (hm0 : 0 ≤ m) (hm1 : m + (one T a : Int) + (preS S 27 : Int) ≤ 1000000)
    (hl : l.length ≤ 50) (hv : v = .slice none 0 0 ∧ l = [] ∨ 0 < l.length) (hr : Kd.R k36 36 w b (fun _ => True) v l)
    (ht : w.cell? ⟨bt, 0, none⟩ = some (.int .i64 T)) (hne : bt ≠ bm) (hbm : w.heap[bm]? = some (.cells #[.int .i64 m] 3 (0, 0)))
    (hno : ∀ c, c < 27 → okC f c = false → S c = 0)
    (hrec : ∀ c, c < 27 → okC f c = true → ∀ (m' : Int) (l' : List S36) (b' : Nat) (v' : Value) (w' : World), 0 ≤ m' → m' + (S c : Int) ≤ 1000000 → l'.length = l.length + 1 → Kd.R k36 36 w' b' (fun _ => True) v' l' →
      w'.cell? ⟨bt, 0, none⟩ = some (.int .i64 T) → w'.heap[bm]? = some (.cells #[.int .i64 m'] 3 (0, 0)) →
      Calls Try.prog 48 #[A6 (nxC f c), .int .i64 (a + toldF (ltC f c)), v', Cl bt bm] w' fun e w'' => e = .returned (.tuple #[]) ∧ KB w' w'' bm ∧ w''.heap[bm]? = some (.cells #[.int .i64 (m' + (S c : Int))] 3 (0, 0))) :
    Calls Try.prog 48 #[A6 f, .int .i64 a, v, Cl bt bm] w fun e w' => e = .returned (.tuple #[]) ∧ KB w w' bm ∧ w'.heap[bm]? = some (.cells #[.int .i64 (m + (one T a : Int) + (preS S 27 : Int))] 3 (0, 0)) := by
  obtain ⟨A, cap, rfl⟩ := Kd.R_slice hr
  have HR := Aside0.mk hr
  have HT := Aside0.mk ht
  have HM := Aside0.mk hbm
  have HV := Aside0.mk hv
  have HREC := Aside0.mk hrec
  have HNO := Aside0.mk hno
  have hltm := blk_lt hbm
  have hltt := World.block_lt_of_cell? w _ ht
  clear hr ht hbm hv hrec hno
  unfold A6 Cl
  go_enter Try.func48, Try.ntmps48
  go_wp2_with fail
  refine (tell_any T a m bt bm A l.length cap _ (by omega) (by omega) ((Below.refl w.heap.size w |>.alloc (Nat.le_refl _) _ |>.cell hltt).trans HT.out) (blk_alloc HM.out _)).mono ?_
  rintro e w1 ⟨rfl, hk1, hm1'⟩
  have HK1 := Aside0.mk hk1
  have HM1 := Aside0.mk hm1'
  clear hk1 hm1'
  go_wp2_with fail
  refine (impl_lightings.calls 30 litL _ lightings_f).mono ?_
  rintro e w2 ⟨v2, rfl, hR2, hb2⟩
  obtain ⟨AL, cL, rfl⟩ := Kd.R_slice hR2
  have hE : EW w T bt bm w.heap.size f A cap l b AL cL w1.heap.size w2 (m + (one T a : Int)) := by
    have hk0 := HK1.out.1
    have hk9 := HK1.out.2
    have hal : KeepBut w (w.alloc (.cells #[.int .i64 (f 0), .int .i64 (f 1), .int .i64 (f 2), .int .i64 (f 3), .int .i64 (f 4), .int .i64 (f 5)] 41 (0, 0))) bm none := KeepBut.of_grown (World.grownBy_alloc w _ none) bm
    have hc := cell_other ((Below.refl w.heap.size w |>.alloc (Nat.le_refl _) (.cells #[.int .i64 (f 0), .int .i64 (f 1), .int .i64 (f 2), .int .i64 (f 3), .int .i64 (f 4), .int .i64 (f 5)] 41 (0, 0)) |>.cell hltt).trans HT.out) hne hk0
    exact ⟨⟨(hal.trans hk0 (.inl rfl)).trans (KeepBut.of_below hb2 _ _) (.inl rfl), (((Below.refl 0 w).alloc (Nat.zero_le _) _).trans hk9).trans (hb2.mono (Nat.zero_le _))⟩, blk_below HM1.out hb2, (hb2.cell (World.block_lt_of_cell? _ _ hc)).trans hc,
      blk_below (hk0.blk (heap_alloc_new w _) (by omega) (by simp)) hb2, Kd.R_below (R_other (Kd.R_alloc HR.out _) (blk_alloc HM.out _) hk0) hb2, hR2⟩
  have HE := Aside0.mk hE
  clear hE hb2 hR2 HK1 HM1
  rw [litL_len]
  go_wp2_with fail
  go_loopw [19] (fun v19 wr => ∃ j : Nat, v19 = .int .i64 j ∧ j ≤ 27 ∧ Aside0 (EW w T bt bm w.heap.size f A cap l b AL cL w1.heap.size wr (m + (one T a : Int) + (preS S j : Int)))) (fun v19 _ => 27 - (intOf v19).toNat)
  case atStart => exact ⟨0, rfl, by omega, ⟨by simpa [preS] using HE.out⟩⟩
  case round =>
    obtain ⟨j, rfl, hj, HW⟩ := hrel
    clear HE
    by_cases c : j < 27
    · have c1 : decide ((j : Int) < 27) = true := decide_eq_true (by omega)
      have p0 : (0 : Int) ≤ (j : Int) := by omega
      have p1 : decide ((0 : Int) ≤ (j : Int)) = true := decide_eq_true p0
      have c2 : decide (j < 27) = true := decide_eq_true c
      obtain ⟨ad, e0, x0, x1, x2⟩ := at_T36 (Kd.R_reads' HW.out.hL).2.2 (j : Int) p0 (by rw [litL_len]; omega)
      cases e0
      rw [litL_at c] at x0 x1 x2
      simp only [Int.toNat_natCast] at x0 x1 x2
      have y0 : wr.cell? ⟨w.heap.size, 0, none⟩ = some (.int .i64 (f 0)) := (blk_cell HW.out.hf 0).trans rfl
      have y1 : wr.cell? ⟨w.heap.size, 1, none⟩ = some (.int .i64 (f 1)) := (blk_cell HW.out.hf 1).trans rfl
      have y2 : wr.cell? ⟨w.heap.size, 2, none⟩ = some (.int .i64 (f 2)) := (blk_cell HW.out.hf 2).trans rfl
      have y3 : wr.cell? ⟨w.heap.size, 3, none⟩ = some (.int .i64 (f 3)) := (blk_cell HW.out.hf 3).trans rfl
      have y4 : wr.cell? ⟨w.heap.size, 4, none⟩ = some (.int .i64 (f 4)) := (blk_cell HW.out.hf 4).trans rfl
      have y5 : wr.cell? ⟨w.heap.size, 5, none⟩ = some (.int .i64 (f 5)) := (blk_cell HW.out.hf 5).trans rfl
      have hlt4 := blk_lt HW.out.hf
      go_wp2_with fail
      refine (lightC f j hf _).mono ?_
      rintro e w5 ⟨rfl, hb5⟩
      have HB5 := Aside0.mk hb5
      clear hb5
      go_wp2_with fail
      refine (told_any (ltC f j) (rope_of (ltC_rope hf j)) _).mono ?_
      rintro e w6 ⟨rfl, hb6⟩
      have HB6 := Aside0.mk hb6
      clear hb6
      have HC := Aside0.mk c
      have hBx : Below wr.heap.size wr w6 := below_chain (bl_alloc _ (by have := HB5.out.size; simp at this; omega) (below_chain (bl_alloc _ (Nat.le_refl _) (Below.refl _ _)) HB5.out)) HB6.out
      have HBX := Aside0.mk hBx
      clear hBx
      have NEXT : ∀ W' : World, okC f j = false → Below wr.heap.size wr W' → EW w T bt bm w.heap.size f A cap l b (some ad) cL w1.heap.size W' (m + (one T a : Int) + (preS S (j + 1) : Int)) := fun W' ho hb => by
        rw [preS_succ, HNO.out j HC.out ho, Nat.add_zero]
        exact HW.out.step hb
      have HNEXT := Aside0.mk NEXT
      clear NEXT
      cases q : litsB f (litC j)
      · have Q := Aside0.mk q
        clear q
        go_wp2_with fail
        go_roundw
        case rel => exact ⟨j + 1, by go_num, by omega, ⟨HNEXT.out _ (by simp [okC, Q.out]) HBX.out⟩⟩
        case measure => simp [intOf]; omega
      · have Q := Aside0.mk q
        clear q
        by_cases g : 0 < toldF (ltC f j)
        · have g1 : decide (0 < toldF (ltC f j)) = true := decide_eq_true g
          have OK := Aside0.mk (okC_parts.2 ⟨Q.out, g⟩)
          have hd := (Rope.told (rope_of (ltC_rope hf j)))
          have hsum : IntKind.i64.wrap (a + toldF (ltC f j)) = a + toldF (ltC f j) := (i64_w _).trans (wrap_id (by omega) (by omega))
          clear g hd
          have hX : w6.heap[wr.heap.size]? = some (.cells #[.int .i64 (litC j 0), .int .i64 (litC j 1), .int .i64 (litC j 2)] 36 (0, 0)) := blk_below (blk_alloc (blk_below (heap_alloc_new wr _) HB5.out) _) HB6.out
          have hZ : w6.heap[w5.heap.size]? = some (.cells #[.int .i64 (ltC f j 0), .int .i64 (ltC f j 1), .int .i64 (ltC f j 2), .int .i64 (ltC f j 3), .int .i64 (ltC f j 4), .int .i64 (ltC f j 5)] 41 (0, 0)) := blk_below (heap_alloc_new w5 _) HB6.out
          have HE6 := Aside0.mk (HW.out.step HBX.out)
          have MK : ∀ W' : World, W'.heap[wr.heap.size]? = w6.heap[wr.heap.size]? → W'.heap[w5.heap.size]? = w6.heap[w5.heap.size]? → W'.cell? ⟨w5.heap.size, 0, none⟩ = some (.int .i64 (ltC f j 0)) ∧ W'.cell? ⟨w5.heap.size, 1, none⟩ = some (.int .i64 (ltC f j 1)) ∧ W'.cell? ⟨w5.heap.size, 2, none⟩ = some (.int .i64 (ltC f j 2)) ∧ W'.cell? ⟨w5.heap.size, 3, none⟩ = some (.int .i64 (ltC f j 3)) ∧ W'.cell? ⟨w5.heap.size, 4, none⟩ = some (.int .i64 (ltC f j 4)) ∧ W'.cell? ⟨w5.heap.size, 5, none⟩ = some (.int .i64 (ltC f j 5)) ∧ W'.cell? ⟨wr.heap.size, 0, none⟩ = some (.int .i64 (litC j 0)) ∧ W'.cell? ⟨wr.heap.size, 1, none⟩ = some (.int .i64 (litC j 1)) ∧ W'.cell? ⟨wr.heap.size, 2, none⟩ = some (.int .i64 (litC j 2)) := fun W' e1 e2 => by
            rw [hX] at e1
            rw [hZ] at e2
            exact ⟨(blk_cell e2 0).trans rfl, (blk_cell e2 1).trans rfl, (blk_cell e2 2).trans rfl, (blk_cell e2 3).trans rfl, (blk_cell e2 4).trans rfl, (blk_cell e2 5).trans rfl, (blk_cell e1 0).trans rfl, (blk_cell e1 1).trans rfl, (blk_cell e1 2).trans rfl⟩
          have MK1 := Aside0.mk (show ∀ W' : World, Below w6.heap.size w6 W' → W'.cell? ⟨w5.heap.size, 0, none⟩ = some (.int .i64 (ltC f j 0)) ∧ W'.cell? ⟨w5.heap.size, 1, none⟩ = some (.int .i64 (ltC f j 1)) ∧ W'.cell? ⟨w5.heap.size, 2, none⟩ = some (.int .i64 (ltC f j 2)) ∧ W'.cell? ⟨w5.heap.size, 3, none⟩ = some (.int .i64 (ltC f j 3)) ∧ W'.cell? ⟨w5.heap.size, 4, none⟩ = some (.int .i64 (ltC f j 4)) ∧ W'.cell? ⟨w5.heap.size, 5, none⟩ = some (.int .i64 (ltC f j 5)) ∧ W'.cell? ⟨wr.heap.size, 0, none⟩ = some (.int .i64 (litC j 0)) ∧ W'.cell? ⟨wr.heap.size, 1, none⟩ = some (.int .i64 (litC j 1)) ∧ W'.cell? ⟨wr.heap.size, 2, none⟩ = some (.int .i64 (litC j 2)) from fun W' hb => MK W' (hb.block _ (blk_lt hX)) (hb.block _ (blk_lt hZ)))
          have MK2 := Aside0.mk (show ∀ W' : World, KeepBut w6 W' bm none → W'.cell? ⟨w5.heap.size, 0, none⟩ = some (.int .i64 (ltC f j 0)) ∧ W'.cell? ⟨w5.heap.size, 1, none⟩ = some (.int .i64 (ltC f j 1)) ∧ W'.cell? ⟨w5.heap.size, 2, none⟩ = some (.int .i64 (ltC f j 2)) ∧ W'.cell? ⟨w5.heap.size, 3, none⟩ = some (.int .i64 (ltC f j 3)) ∧ W'.cell? ⟨w5.heap.size, 4, none⟩ = some (.int .i64 (ltC f j 4)) ∧ W'.cell? ⟨w5.heap.size, 5, none⟩ = some (.int .i64 (ltC f j 5)) ∧ W'.cell? ⟨wr.heap.size, 0, none⟩ = some (.int .i64 (litC j 0)) ∧ W'.cell? ⟨wr.heap.size, 1, none⟩ = some (.int .i64 (litC j 1)) ∧ W'.cell? ⟨wr.heap.size, 2, none⟩ = some (.int .i64 (litC j 2)) from fun W' hk => MK W' (hk.2 _ (blk_lt hX) (fun e => by have := HE6.out.hm; rw [← e, hX] at this; injection this with this; injection this with _ this; exact absurd this (by decide)) (by simp)) (hk.2 _ (blk_lt hZ) (fun e => by have := HE6.out.hm; rw [← e, hZ] at this; injection this with this; injection this with _ this; exact absurd this (by decide)) (by simp)))
          clear MK hX hZ x0 x1 x2 y0 y1 y2 y3 y4 y5
          have BND := Aside0.mk (show 0 ≤ m + (one T a : Int) + (preS S j : Int) ∧ m + (one T a : Int) + (preS S j : Int) + (S j : Int) ≤ 1000000 from by
            have h1 := preS_le S (show j + 1 ≤ 27 from HC.out)
            rw [preS_succ] at h1
            omega)
          have AFTER := Aside0.mk (show ∀ W' : World, KB w6 W' bm → W'.heap[bm]? = some (.cells #[.int .i64 (m + (one T a : Int) + (preS S j : Int) + (S j : Int))] 3 (0, 0)) → EW w T bt bm w.heap.size f A cap l b (some ad) cL w1.heap.size W' (m + (one T a : Int) + (preS S (j + 1) : Int)) from fun W' hk hm => by
            have h1 := HE6.out.other hne hk hm
            rw [preS_succ]
            rw [show m + (one T a : Int) + ((preS S j + S j : Nat) : Int) = m + (one T a : Int) + (preS S j : Int) + (S j : Int) by omega]
            exact h1)
          go_wp2_with fail
          go_region_held3 (fun w' => w'.cell? ⟨w5.heap.size, 0, none⟩ = some (.int .i64 (ltC f j 0)) ∧ w'.cell? ⟨w5.heap.size, 1, none⟩ = some (.int .i64 (ltC f j 1)) ∧ w'.cell? ⟨w5.heap.size, 2, none⟩ = some (.int .i64 (ltC f j 2)) ∧ w'.cell? ⟨w5.heap.size, 3, none⟩ = some (.int .i64 (ltC f j 3)) ∧ w'.cell? ⟨w5.heap.size, 4, none⟩ = some (.int .i64 (ltC f j 4)) ∧ w'.cell? ⟨w5.heap.size, 5, none⟩ = some (.int .i64 (ltC f j 5)) ∧ w'.cell? ⟨wr.heap.size, 0, none⟩ = some (.int .i64 (litC j 0)) ∧ w'.cell? ⟨wr.heap.size, 1, none⟩ = some (.int .i64 (litC j 1)) ∧ w'.cell? ⟨wr.heap.size, 2, none⟩ = some (.int .i64 (litC j 2)))
            (first | (refine MK1.out _ ?_; ((repeat first | (with_reducible assumption) | (with_reducible exact Below.refl _ _) | ((with_reducible refine bl_alloc _ ?_ ?_); focus (first | (simp; done) | (simp; omega) | omega | (exact below_size (by assumption)))) | (with_reducible refine Below.drew ?_) | (with_reducible refine bl_drewN _ ?_)); done)) | exact MK2.out _ qk.1)
            (first
              | (go_at_call 41; refine (burnC f j _).mono ?_; rintro e w7 ⟨rfl, hb7⟩; have q7 : Below w6.heap.size w6 w7 := below_chain (by ((repeat first | (with_reducible assumption) | (with_reducible exact Below.refl _ _) | ((with_reducible refine bl_alloc _ ?_ ?_); focus (first | (simp; done) | (simp; omega) | omega | (exact below_size (by assumption)))) | (with_reducible refine Below.drew ?_) | (with_reducible refine bl_drewN _ ?_)); done)) hb7)
              | (go_at_call 67; refine (clone_any b _ l _ (Kd.R_below HE6.out.hr (by ((repeat first | (with_reducible assumption) | (with_reducible exact Below.refl _ _) | ((with_reducible refine bl_alloc _ ?_ ?_); focus (first | (simp; done) | (simp; omega) | omega | (exact below_size (by assumption)))) | (with_reducible refine Below.drew ?_) | (with_reducible refine bl_drewN _ ?_)); done))) HV.out (by omega)).mono ?_; rintro e w8 ⟨vc, rfl, hRc, hb8⟩; have q8 : Below w6.heap.size w6 w8 := below_chain (by ((repeat first | (with_reducible assumption) | (with_reducible exact Below.refl _ _) | ((with_reducible refine bl_alloc _ ?_ ?_); focus (first | (simp; done) | (simp; omega) | omega | (exact below_size (by assumption)))) | (with_reducible refine Below.drew ?_) | (with_reducible refine bl_drewN _ ?_)); done)) hb8; have hRd := Kd.R_lower hRc (below_size (show Below w6.heap.size w6 _ by ((repeat first | (with_reducible assumption) | (with_reducible exact Below.refl _ _) | ((with_reducible refine bl_alloc _ ?_ ?_); focus (first | (simp; done) | (simp; omega) | omega | (exact below_size (by assumption)))) | (with_reducible refine Below.drew ?_) | (with_reducible refine bl_drewN _ ?_)); done))))
              | (refine Kd.R_append_rows_step k36 (w0 := w6) w6.heap.size (by rfl) (.tmp 43) (.tmp 45) 39 36 (.agg #[(.int .i64 0), (.int .i64 0), (.int .i64 0)]) 24 rfl Try.underlying39 info36 rfl (by decide) (by decide) vc l [(⟨litC j 0, litC j 1, litC j 2⟩ : S36)] _ _ _ (fun _ => True) (fun _ => False) rfl rfl (by first | exact hRd | exact Kd.R_alloc hRd _) (lit_reads (by repeat (first | exact heap_alloc_new _ _ | refine blk_below ?_ hb8 | refine blk_below ?_ hb7 | refine blk_alloc ?_ _))) (fun _ _ h => h) (fun _ h => h.elim) (fun _ _ => trivial) (by ((repeat first | (with_reducible assumption) | (with_reducible exact Below.refl _ _) | ((with_reducible refine bl_alloc _ ?_ ?_); focus (first | (simp; done) | (simp; omega) | omega | (exact below_size (by assumption)))) | (with_reducible refine Below.drew ?_) | (with_reducible refine bl_drewN _ ?_)); done)) (below_size (show Below w6.heap.size w6 _ by ((repeat first | (with_reducible assumption) | (with_reducible exact Below.refl _ _) | ((with_reducible refine bl_alloc _ ?_ ?_); focus (first | (simp; done) | (simp; omega) | omega | (exact below_size (by assumption)))) | (with_reducible refine Below.drew ?_) | (with_reducible refine bl_drewN _ ?_)); done))) (by first | omega | (simp; omega)) ?_; intro v9 w9 hR9 q9 hg9 hn9)
              | (go_at_call 48; (try simp only [hsum]); refine (HREC.out j HC.out OK.out (m + (one T a : Int) + (preS S j : Int)) _ _ _ _ BND.out.1 BND.out.2 (by simp) hR9 ((q9.cell (World.block_lt_of_cell? _ _ HE6.out.ht)).trans HE6.out.ht) (blk_below HE6.out.hm q9)).mono ?_; rintro e wz ⟨rfl, hkz, hmz⟩; have qk : KB w6 wz bm := ⟨(KeepBut.of_below q9 _ _).trans hkz.1 (.inl rfl), (q9.mono (Nat.zero_le _)).trans hkz.2⟩))
          all_goals
            go_wp2_with fail
            go_roundw
            case rel => exact ⟨j + 1, by go_num, by have := HC.out; omega, ⟨AFTER.out _ qk hmz⟩⟩
            case measure => have := HC.out; simp [intOf]; omega
        · have g1 : decide (0 < toldF (ltC f j)) = false := decide_eq_false g
          have G := Aside0.mk g
          clear g
          go_wp2_with fail
          go_roundw
          case rel => exact ⟨j + 1, by go_num, by omega, ⟨HNEXT.out _ (by simp [okC, G.out]) HBX.out⟩⟩
          case measure => simp [intOf]; omega
    · have c1 : decide ((j : Int) < 27) = false := decide_eq_false (by omega)
      obtain rfl : j = 27 := by omega
      go_wp2_with fail
      refine Go.Great.bodyPost_end0 rfl rfl ⟨rfl, HW.out.keep, HW.out.hm⟩
end Go.Proofs.Ytdbnajaimodnmaa
