/- Contract: what is told of the levels. No statement of the seat is proved here. -/
import Derived.Test.YtlhodfjdmafapaaLevW
import Derived.Test.YtlhodfjdmafapaaPTell
namespace Go.Proofs.Ytlhodfjdmafapaa
open Go.RowKit Go.Proofs.YtlhodfjdmafapaaW.PrintWords Go.Proofs.YtlhodfjdmafapaaW.PrintLast Go.Proofs.Ytlhodfjdmafapaa.QIm
set_option linter.unusedVariables false
set_option linter.unusedSimpArgs false
/-- cells that tell a best -/
structure Best15 (cs : Array Value) (B : Best) : Prop where
  size : cs.size = 15
  s0 : cs[0]? = some (.int .i64 B.sets)
  s1 : cs[1]? = some (.int .i64 B.turns)
  sc : ∀ i, i < 13 → cs[2 + i]? = some (.int .i64 (B.c i))
def AB (B : Best) : Value := .agg #[.int .i64 B.sets, .int .i64 B.turns, .int .i64 (B.c 0), .int .i64 (B.c 1), .int .i64 (B.c 2), .int .i64 (B.c 3), .int .i64 (B.c 4), .int .i64 (B.c 5), .int .i64 (B.c 6), .int .i64 (B.c 7), .int .i64 (B.c 8), .int .i64 (B.c 9), .int .i64 (B.c 10), .int .i64 (B.c 11), .int .i64 (B.c 12)]
theorem Best15.putc {cs : Array Value} {B : Best} (h : Best15 cs B) {n : Nat} (hn : n < 13) (v : Int) : Best15 (cs.setIfInBounds (2 + n) (.int .i64 v)) ⟨B.sets, B.turns, upd B.c n v⟩ := by
  have hs := h.size
  refine ⟨by simp [hs], ?_, ?_, fun i hi => ?_⟩
  · rw [Array.getElem?_setIfInBounds_ne (by omega)]; exact h.s0
  · rw [Array.getElem?_setIfInBounds_ne (by omega)]; exact h.s1
  · by_cases e : i = n
    · subst e
      rw [Array.getElem?_setIfInBounds_self_of_lt (by omega)]
      simp [upd]
    · rw [Array.getElem?_setIfInBounds_ne (by omega), h.sc i hi]
      simp [upd, e]
theorem Best15.put0 {cs : Array Value} {B : Best} (h : Best15 cs B) (v : Int) : Best15 (cs.setIfInBounds 0 (.int .i64 v)) ⟨v, B.turns, B.c⟩ := by
  have hs := h.size
  refine ⟨by simp [hs], ?_, ?_, fun i hi => ?_⟩
  · rw [Array.getElem?_setIfInBounds_self_of_lt (by omega)]
  · rw [Array.getElem?_setIfInBounds_ne (by omega)]; exact h.s1
  · rw [Array.getElem?_setIfInBounds_ne (by omega)]; exact h.sc i hi
theorem Best15.put1 {cs : Array Value} {B : Best} (h : Best15 cs B) (v : Int) : Best15 (cs.setIfInBounds 1 (.int .i64 v)) ⟨B.sets, v, B.c⟩ := by
  have hs := h.size
  refine ⟨by simp [hs], ?_, ?_, fun i hi => ?_⟩
  · rw [Array.getElem?_setIfInBounds_ne (by omega)]; exact h.s0
  · rw [Array.getElem?_setIfInBounds_self_of_lt (by omega)]
  · rw [Array.getElem?_setIfInBounds_ne (by omega)]; exact h.sc i hi
theorem Best15.cast {cs : Array Value} {a b a' b' : Int} {c : Nat → Int} (h : Best15 cs ⟨a, b, c⟩) (ea : a = a') (eb : b = b') : Best15 cs ⟨a', b', c⟩ := by subst ea; subst eb; exact h
/-- nothing has turned but one block -/
structure Fr (w W : World) (ob : Nat) : Prop where
  same : ∀ q, q < w.heap.size → q ≠ ob → W.heap[q]? = w.heap[q]?
  size : w.heap.size ≤ W.heap.size
theorem Fr.refl (w : World) (ob : Nat) : Fr w w ob := ⟨fun _ _ _ => rfl, Nat.le_refl _⟩
theorem Fr.alloc {w W : World} {ob : Nat} (h : Fr w W ob) (o : Obj) : Fr w (W.alloc o) ob := ⟨fun q h1 h2 => (Below.heap_alloc W o q (Nat.lt_of_lt_of_le h1 h.size)).trans (h.same q h1 h2), by rw [World.size_alloc]; exact Nat.le_trans h.size (Nat.le_succ _)⟩
theorem Fr.set {w W : World} {ob : Nat} (h : Fr w W ob) (j : Nat) (v : Value) : Fr w (W.setCell ⟨ob, j, none⟩ v) ob := ⟨fun q h1 h2 => (Below.heap_setCell W ⟨ob, j, none⟩ v q h2).trans (h.same q h1 h2), by rw [World.size_setCell]; exact h.size⟩
theorem Fr.drew {w W : World} {ob : Nat} (h : Fr w W ob) : Fr w W.drew ob := ⟨h.same, h.size⟩
theorem Fr.drewN {w W : World} {ob : Nat} (h : Fr w W ob) (n : Nat) : Fr w (W.drewN n) ob := ⟨h.same, h.size⟩
def zeros15 : Array Value := #[.int .i64 0, .int .i64 0, .int .i64 0, .int .i64 0, .int .i64 0, .int .i64 0, .int .i64 0, .int .i64 0, .int .i64 0, .int .i64 0, .int .i64 0, .int .i64 0, .int .i64 0, .int .i64 0, .int .i64 0]
theorem best_results (W : World) (rb : Nat) (B : Best) (tmps : Array Value) (h6 : tmps[6]? = some (.pointer (some ⟨rb, 0, none⟩)))
    (r0 : W.cell? ⟨rb, 0, none⟩ = some (.int .i64 B.sets))
    (r1 : W.cell? ⟨rb, 1, none⟩ = some (.int .i64 B.turns))
    (r2 : W.cell? ⟨rb, 2, none⟩ = some (.int .i64 (B.c 0)))
    (r3 : W.cell? ⟨rb, 3, none⟩ = some (.int .i64 (B.c 1)))
    (r4 : W.cell? ⟨rb, 4, none⟩ = some (.int .i64 (B.c 2)))
    (r5 : W.cell? ⟨rb, 5, none⟩ = some (.int .i64 (B.c 3)))
    (r6 : W.cell? ⟨rb, 6, none⟩ = some (.int .i64 (B.c 4)))
    (r7 : W.cell? ⟨rb, 7, none⟩ = some (.int .i64 (B.c 5)))
    (r8 : W.cell? ⟨rb, 8, none⟩ = some (.int .i64 (B.c 6)))
    (r9 : W.cell? ⟨rb, 9, none⟩ = some (.int .i64 (B.c 7)))
    (r10 : W.cell? ⟨rb, 10, none⟩ = some (.int .i64 (B.c 8)))
    (r11 : W.cell? ⟨rb, 11, none⟩ = some (.int .i64 (B.c 9)))
    (r12 : W.cell? ⟨rb, 12, none⟩ = some (.int .i64 (B.c 10)))
    (r13 : W.cell? ⟨rb, 13, none⟩ = some (.int .i64 (B.c 11)))
    (r14 : W.cell? ⟨rb, 14, none⟩ = some (.int .i64 (B.c 12)))
    : (results Try.f73 tmps).run Try.prog W = .ok (AB B) W := by
  simp [AB, results, Try.results73, go_sem, h6, r0, r1, r2, r3, r4, r5, r6, r7, r8, r9, r10, r11, r12, r13, r14]
theorem zeros_at (B : Best) : ∃ cs : Array Value, cs = #[.int .i64 B.sets, .int .i64 B.turns, .int .i64 (B.c 0), .int .i64 (B.c 1), .int .i64 (B.c 2), .int .i64 (B.c 3), .int .i64 (B.c 4), .int .i64 (B.c 5), .int .i64 (B.c 6), .int .i64 (B.c 7), .int .i64 (B.c 8), .int .i64 (B.c 9), .int .i64 (B.c 10), .int .i64 (B.c 11), .int .i64 (B.c 12)] ∧ (((((((((((((((zeros15.setIfInBounds 0 (.int .i64 B.sets)).setIfInBounds 1 (.int .i64 B.turns)).setIfInBounds 2 (.int .i64 (B.c 0))).setIfInBounds 3 (.int .i64 (B.c 1))).setIfInBounds 4 (.int .i64 (B.c 2))).setIfInBounds 5 (.int .i64 (B.c 3))).setIfInBounds 6 (.int .i64 (B.c 4))).setIfInBounds 7 (.int .i64 (B.c 5))).setIfInBounds 8 (.int .i64 (B.c 6))).setIfInBounds 9 (.int .i64 (B.c 7))).setIfInBounds 10 (.int .i64 (B.c 8))).setIfInBounds 11 (.int .i64 (B.c 9))).setIfInBounds 12 (.int .i64 (B.c 10))).setIfInBounds 13 (.int .i64 (B.c 11))).setIfInBounds 14 (.int .i64 (B.c 12))) = cs := ⟨_, rfl, by simp [zeros15]⟩
theorem best_final (W : World) (rb T : Nat) (B : Best) (tmps : Array Value) (h6 : tmps[6]? = some (.pointer (some ⟨rb, 0, none⟩))) (HQ : W.heap[rb]? = some (.cells zeros15 T (0, 0))) :
    (results Try.f73 tmps).run Try.prog (World.setCell (World.setCell (World.setCell (World.setCell (World.setCell (World.setCell (World.setCell (World.setCell (World.setCell (World.setCell (World.setCell (World.setCell (World.setCell (World.setCell (World.setCell W ⟨rb, 0, none⟩ (.int .i64 B.sets)) ⟨rb, 1, none⟩ (.int .i64 B.turns)) ⟨rb, 2, none⟩ (.int .i64 (B.c 0))) ⟨rb, 3, none⟩ (.int .i64 (B.c 1))) ⟨rb, 4, none⟩ (.int .i64 (B.c 2))) ⟨rb, 5, none⟩ (.int .i64 (B.c 3))) ⟨rb, 6, none⟩ (.int .i64 (B.c 4))) ⟨rb, 7, none⟩ (.int .i64 (B.c 5))) ⟨rb, 8, none⟩ (.int .i64 (B.c 6))) ⟨rb, 9, none⟩ (.int .i64 (B.c 7))) ⟨rb, 10, none⟩ (.int .i64 (B.c 8))) ⟨rb, 11, none⟩ (.int .i64 (B.c 9))) ⟨rb, 12, none⟩ (.int .i64 (B.c 10))) ⟨rb, 13, none⟩ (.int .i64 (B.c 11))) ⟨rb, 14, none⟩ (.int .i64 (B.c 12))) = .ok (AB B) (World.setCell (World.setCell (World.setCell (World.setCell (World.setCell (World.setCell (World.setCell (World.setCell (World.setCell (World.setCell (World.setCell (World.setCell (World.setCell (World.setCell (World.setCell W ⟨rb, 0, none⟩ (.int .i64 B.sets)) ⟨rb, 1, none⟩ (.int .i64 B.turns)) ⟨rb, 2, none⟩ (.int .i64 (B.c 0))) ⟨rb, 3, none⟩ (.int .i64 (B.c 1))) ⟨rb, 4, none⟩ (.int .i64 (B.c 2))) ⟨rb, 5, none⟩ (.int .i64 (B.c 3))) ⟨rb, 6, none⟩ (.int .i64 (B.c 4))) ⟨rb, 7, none⟩ (.int .i64 (B.c 5))) ⟨rb, 8, none⟩ (.int .i64 (B.c 6))) ⟨rb, 9, none⟩ (.int .i64 (B.c 7))) ⟨rb, 10, none⟩ (.int .i64 (B.c 8))) ⟨rb, 11, none⟩ (.int .i64 (B.c 9))) ⟨rb, 12, none⟩ (.int .i64 (B.c 10))) ⟨rb, 13, none⟩ (.int .i64 (B.c 11))) ⟨rb, 14, none⟩ (.int .i64 (B.c 12))) := by
  have hfin := (blk_set (blk_set (blk_set (blk_set (blk_set (blk_set (blk_set (blk_set (blk_set (blk_set (blk_set (blk_set (blk_set (blk_set (blk_set HQ 0 (.int .i64 B.sets)) 1 (.int .i64 B.turns)) 2 (.int .i64 (B.c 0))) 3 (.int .i64 (B.c 1))) 4 (.int .i64 (B.c 2))) 5 (.int .i64 (B.c 3))) 6 (.int .i64 (B.c 4))) 7 (.int .i64 (B.c 5))) 8 (.int .i64 (B.c 6))) 9 (.int .i64 (B.c 7))) 10 (.int .i64 (B.c 8))) 11 (.int .i64 (B.c 9))) 12 (.int .i64 (B.c 10))) 13 (.int .i64 (B.c 11))) 14 (.int .i64 (B.c 12)))
  obtain ⟨cs, hcs, e⟩ := zeros_at B
  rw [e] at hfin
  generalize World.setCell _ _ _ = W' at hfin ⊢
  subst hcs
  exact best_results W' rb B tmps h6 ((blk_cell hfin 0).trans rfl) ((blk_cell hfin 1).trans rfl) ((blk_cell hfin 2).trans rfl) ((blk_cell hfin 3).trans rfl) ((blk_cell hfin 4).trans rfl) ((blk_cell hfin 5).trans rfl) ((blk_cell hfin 6).trans rfl) ((blk_cell hfin 7).trans rfl) ((blk_cell hfin 8).trans rfl) ((blk_cell hfin 9).trans rfl) ((blk_cell hfin 10).trans rfl) ((blk_cell hfin 11).trans rfl) ((blk_cell hfin 12).trans rfl) ((blk_cell hfin 13).trans rfl) ((blk_cell hfin 14).trans rfl)
set_option maxRecDepth 100000 in
set_option maxHeartbeats 4000000 in
theorem toTell_any (k : Nat → Int) (s : Sd) (time : Int) (hs : Sand k (fn4 s)) (h0 : 0 ≤ time) (h1 : time ≤ 40) (w : World) :
    Calls Try.prog 73 #[A4 k, A4 (fn4 s), .int .i64 time] w fun e w' => e = .returned (AB (tellTo k s time 13)) ∧ Below w.heap.size w w' := by
  have HS := Aside0.mk hs
  clear hs
  go_enter Try.func73, Try.ntmps73
  go_wp2_with fail
  refine (levels_any k s time HS.out h0 h1 _).mono ?_
  rintro e w2 ⟨v, bs, Ls, rfl, hR, hL, hlen, hperm, hb⟩
  obtain ⟨A, c, rfl, hc, hC⟩ := Kd.R_reads hR
  obtain ⟨n2, hn2, hR⟩ := R_at hR
  have HLEN := Aside0.mk (show bs.length = 13 ∧ Ls.length = 13 from ⟨by rw [hL.1, hlen], hlen⟩)
  have HPERM := Aside0.mk hperm
  have HR2 := Aside0.mk hR
  have HL2 := Aside0.mk hL
  have HZ := Aside0.mk (show w.heap.size + 1 + 1 + 1 < w2.heap.size by have := hb.size; simp at this; omega)
  have HO2 := Aside0.mk (show w2.heap[w.heap.size + 1 + 1 + 1]? = some (.cells #[.int .i64 (-1), .int .i64 (-1), .int .i64 0, .int .i64 0, .int .i64 0, .int .i64 0, .int .i64 0, .int .i64 0, .int .i64 0, .int .i64 0, .int .i64 0, .int .i64 0, .int .i64 0, .int .i64 0, .int .i64 0] 88 (0, 0)) by
    have := blk_below (heap_alloc_new _ _) hb
    simpa using this)
  have HQ2 := Aside0.mk (show w2.heap[w.heap.size + 1 + 1]? = some (.cells zeros15 88 (0, 0)) by
    have := blk_below (blk_alloc (heap_alloc_new _ _) _) hb
    simpa [zeros15] using this)
  have HB2 := Aside0.mk (show Below w.heap.size w w2 from below_chain (below_alloc (below_alloc (below_alloc (below_alloc (Below.refl _ _) _) _) _) _) hb)
  have e13 : bs.length = 13 := by rw [hL.1, hlen]
  rw [e13]
  clear hb hR hL hlen hperm hC hc hn2 e13
  go_wp2_with fail
  obtain ⟨ob, hob⟩ : ∃ ob, ob = w.heap.size + 1 + 1 + 1 := ⟨_, rfl⟩
  obtain ⟨rb, hrb⟩ : ∃ rb, rb = w.heap.size + 1 + 1 := ⟨_, rfl⟩
  rw [← hob, ← hrb]
  rw [← hob] at HO2 HZ
  rw [← hrb] at HQ2
  have HNE := Aside0.mk (show w.heap.size ≤ rb ∧ w.heap.size ≤ ob ∧ rb < ob by omega)
  clear hob hrb
  go_loopw [18] (fun v18 wr => ∃ (n : Nat) (cs : Array Value), v18 = .int .i64 n ∧ Aside0 (n ≤ 13) ∧ Aside0 (wr.heap[ob]? = some (.cells cs 88 (0, 0))) ∧ Aside0 (Best15 cs (tellTo k s time n)) ∧ Aside0 (wr.heap[rb]? = some (.cells zeros15 88 (0, 0))) ∧ Aside0 (LvOwn wr bs Ls) ∧ Aside0 (Kd.R KM 123 wr n2 (fun _ => True) (.slice A 13 c) bs) ∧ Aside0 (Below w.heap.size w wr)) (fun v18 _ => 13 - (intOf v18).toNat)
  case atStart =>
    refine ⟨0, _, rfl, ⟨by omega⟩, HO2, ⟨⟨rfl, rfl, rfl, fun i hi => ?_⟩⟩, HQ2, HL2, ⟨by have := HR2.out; rw [HLEN.out.1] at this; exact this⟩, HB2⟩
    obtain rfl | rfl | rfl | rfl | rfl | rfl | rfl | rfl | rfl | rfl | rfl | rfl | rfl : i = 0 ∨ i = 1 ∨ i = 2 ∨ i = 3 ∨ i = 4 ∨ i = 5 ∨ i = 6 ∨ i = 7 ∨ i = 8 ∨ i = 9 ∨ i = 10 ∨ i = 11 ∨ i = 12 := by omega
    all_goals rfl
  case round =>
    obtain ⟨n, cs, rfl, HN, HO, HV, HQ, HL, HR, HB⟩ := hrel
    obtain ⟨wo, rfl⟩ : ∃ wo : World, wo = wr := ⟨_, rfl⟩
    have hn13 := HN.out
    by_cases c : n < 13
    · have c0 : decide ((n : Int) < 13) = true := decide_eq_true (by omega)
      obtain ⟨b, hb⟩ : ∃ b, bs[n]? = some b := ⟨_, List.getElem?_eq_getElem (by rw [HLEN.out.1]; exact c)⟩
      obtain ⟨L, hL⟩ : ∃ L, Ls[n]? = some L := ⟨_, List.getElem?_eq_getElem (by rw [HLEN.out.2]; exact c)⟩
      have HOW := Aside0.mk (HL.out.2 n b L hb hL)
      have HLP := Aside0.mk (HPERM.out n L hL)
      obtain ⟨g, cp, e9, gb, gl, cl, HGc⟩ := Kd.R_form HR.out (by rw [HLEN.out.1]; omega)
      injection e9 with eA en ec
      subst eA
      subst ec
      obtain ⟨hx, hf⟩ := Kd.R_celln (0 : Nat) HR.out (n : Int) (by omega) (by omega)
      have hx2 : wo.cell? ⟨g, n, none⟩ = some (.map (some b)) := by
        rw [show rdOf 0 bs (n : Int) = b by simp [rdOf, List.getD_eq_getElem?_getD, hb]] at hx
        simpa using hx
      have p0 : (0 : Int) ≤ (n : Int) := by omega
      have p1 : (n : Int) < 13 := by omega
      have HC13 := Aside0.mk c
      clear hx hf HGc hb hL gb c en
      go_wp2_with (first | (at_range; refine wpList_range_om _ MW rfl _ 123 rfl 127 Try.underlying123 b L.length L rfl HOW.out ?_; intro w3 hrg3 hgrow3 hsz3) | fail)
      have HM3 := Aside0.mk (show MW.ranges w3 b wo.heap.size L.length L [] from hrg3)
      have HF3 := Aside0.mk (show ∀ q, q < wo.heap.size → q ≠ ob → w3.heap[q]? = wo.heap[q]? from fun q hq _ => hgrow3.block q hq (by simp))
      have HO3 := Aside0.mk (show w3.heap[ob]? = some (.cells cs 88 (0, 0)) from blk_grown HO.out hgrow3 (by simp))
      have HB3 := Aside0.mk (show Below w.heap.size w w3 from HB.out.grown hgrow3 HB.out.size (fun q hq => by cases hq))
      have HZ3 := Aside0.mk (show wo.heap.size ≤ w3.heap.size by rw [hsz3]; omega)
      clear hrg3 hgrow3 hsz3 hx2 gl
      go_frame
      go_loopw [25] (fun v25 wz => ∃ (done : List Ent) (cz : Array Value), Aside0 (MW.ranges wz b wo.heap.size L.length L done) ∧ Aside0 (wz.heap[ob]? = some (.cells cz 88 (0, 0))) ∧ Aside0 (Best15 cz (done.foldl (tellStep time n) (tellTo k s time n))) ∧ Aside0 (∀ q, q < wo.heap.size → q ≠ ob → wz.heap[q]? = wo.heap[q]?) ∧ Aside0 (wo.heap.size ≤ wz.heap.size) ∧ Aside0 (Below w.heap.size w wz)) (fun _ wz => wz.rangeLeft b wo.heap.size)
      case atStart => exact ⟨[], cs, HM3, HO3, HV, HF3, HZ3, HB3⟩
      case round =>
        obtain ⟨done, cz, HRg, HOz, HVz, HFz, HZz, HBz⟩ := hrel
        obtain ⟨wz, rfl⟩ : ∃ wz : World, wz = wr := ⟨_, rfl⟩
        go_wp2_with (first | (at_next; refine wpList_next_om _ MW rfl _ rfl b wo.heap.size L.length L done rfl HRg.out ?_ ?_) | fail)
        · intro hperm
          have HPM := Aside0.mk (hperm.trans HLP.out)
          clear hperm
          go_wp2_with fail
          have hgt := Kd.R_typed HR.out g rfl
          have hv := HVz.out
          rw [tell_perm HPM.out] at hv
          have hsame : ∀ (b' : Nat) (es : Array MapEntry) (cc : Nat), wo.heap[b']? = some (Obj.map es cc) → wz.heap[b']? = wo.heap[b']? := fun b' es cc hm => HFz.out b' (blk_lt hm) (fun e => by rw [e, HO.out] at hm; cases hm)
          refine ⟨⟨n + 1, cz, by go_num, ⟨by have := HC13.out; omega⟩, HOz, ⟨hv⟩, ⟨(HFz.out rb (blk_lt HQ.out) (by have := HNE.out; omega)).trans HQ.out⟩, ⟨HL.out.same (fun b' es cc hm _ => hsame b' es cc hm)⟩, ⟨Kd.R_step (Kd.R_reok (ok := fun q => q = g) rfl HR.out (fun q hq => by simpa [Value.ownBlock] using hq.symm)) (fun q hq hlt => by
            subst hq
            exact HFz.out q hlt (fun e => by
              obtain ⟨cs', hc'⟩ := hgt
              rw [e, HO.out] at hc'
              cases hc')) |> fun h => Kd.R_mono h (fun _ _ => trivial)⟩, HBz⟩, by simp only [intOf]; have := HC13.out; omega⟩
        · intro x0 x1 x2 x3 xt yp yt w4 hxy hnd hrg4 hlt4 hgrow4 hsz4 hen4
          have hen5 : (Instr.entry (.pointer (some ⟨wo.heap.size, 0, none⟩))).run Try.prog w4 = .ok (.tuple #[.agg #[.int .i64 x0, .int .i64 x1, .int .i64 x2, .int .i64 x3, .int .i64 xt], .agg #[.int .i64 yp, .int .i64 yt]]) w4 := hen4
          simp only [MW, mkSp, ASp, AWk]
          have HRg4 := Aside0.mk hrg4
          have HLT4 := Aside0.mk hlt4
          have HXY := Aside0.mk hxy
          have hro : some ob ≠ some wo.heap.size := fun e => by injection e with e; have := blk_lt HO.out; omega
          have HO4 := Aside0.mk (show w4.heap[ob]? = some (.cells cz 88 (0, 0)) from blk_grown HOz.out hgrow4 hro)
          have HF4 := Aside0.mk (show ∀ q, q < wo.heap.size → q ≠ ob → w4.heap[q]? = wo.heap[q]? from fun q hq hne => (hgrow4.block q (Nat.lt_of_lt_of_le hq HZz.out) (fun e => by injection e with e; omega)).trans (HFz.out q hq hne))
          have HZ4 := Aside0.mk (show wo.heap.size ≤ w4.heap.size by rw [hsz4]; exact HZz.out)
          have HB4 := Aside0.mk (show Below w.heap.size w w4 from HBz.out.grown hgrow4 HBz.out.size (fun q hq => by cases hq; exact HB.out.size))
          have hln := blk_lt HO4.out
          have KEEP := Aside0.mk (show ∀ (W' : World) (cz' : Array Value), (∀ q, q < w4.heap.size → q ≠ ob → W'.heap[q]? = w4.heap[q]?) → w4.heap.size ≤ W'.heap.size → Aside0 (MW.ranges W' b wo.heap.size L.length L (done ++ [(((x0, x1, x2, x3), xt), (yp, yt))])) ∧ Aside0 (∀ q, q < wo.heap.size → q ≠ ob → W'.heap[q]? = wo.heap[q]?) ∧ Aside0 (wo.heap.size ≤ W'.heap.size) ∧ W'.rangeLeft b wo.heap.size < wz.rangeLeft b wo.heap.size from fun W' cz' hq hsz => by
            have hbl := MapKd.own_lt (MapKd.ranges_own HRg4.out)
            have hrl := MapKd.ranges_lt HRg4.out
            have nb : b ≠ ob := fun e => by
              obtain ⟨es, cc, hm⟩ := MapKd.own_is (MapKd.ranges_own HRg4.out)
              rw [e, HO4.out] at hm
              cases hm
            have nr : wo.heap.size ≠ ob := fun e => by have := blk_lt HO.out; omega
            refine ⟨⟨MapKd.ranges_same HRg4.out (hq b hbl nb) (hq _ hrl nr)⟩, ⟨fun q h1 h2 => (hq q (Nat.lt_of_lt_of_le h1 HZ4.out) h2).trans (HF4.out q h1 h2)⟩, ⟨Nat.le_trans HZ4.out hsz⟩, ?_⟩
            rw [MapKd.ranges_left HRg4.out (hq b hbl nb) (hq _ hrl nr)]
            exact HLT4.out)
          clear hrg4 hlt4 hxy hgrow4 hsz4 hen4 hnd HRg HOz HFz HZz HBz hro
          by_cases cx : xt = time
          · have e0 : (xt != time) = false := by simp [cx]
            have HCX := Aside0.mk cx
            clear cx
            have hv := HVz.out
            obtain ⟨B, hB⟩ : ∃ B, done.foldl (tellStep time n) (tellTo k s time n) = B := ⟨_, rfl⟩
            rw [hB] at hv
            have HBB := Aside0.mk hB
            have HV4 := Aside0.mk hv
            have z0 : w4.cell? ⟨ob, 0, none⟩ = some (.int .i64 B.sets) := (blk_cell HO4.out 0).trans hv.s0
            have z1 : w4.cell? ⟨ob, 1, none⟩ = some (.int .i64 B.turns) := (blk_cell HO4.out 1).trans hv.s1
            have z2 : w4.cell? ⟨ob, 2 + n, none⟩ = some (.int .i64 (B.c n)) := (blk_cell HO4.out (2 + n)).trans (hv.sc n HC13.out)
            have z3 : w4.frozen? ⟨ob, 2 + n, none⟩ = false := blk_frozen HO4.out _
            have z4 : w4.frozen? ⟨ob, 0, none⟩ = false := blk_frozen HO4.out _
            have z5 : w4.frozen? ⟨ob, 1, none⟩ = false := blk_frozen HO4.out _
            clear hv hB
            have CLOSE := Aside0.mk (show ∀ W' : World, Fr w4 W' ob → (∃ cz' : Array Value, W'.heap[ob]? = some (.cells cz' 88 (0, 0)) ∧ Best15 cz' ⟨if B.sets < 0 then (n : Int) else B.sets, tmin B.turns yt, upd B.c n (wrap64 (B.c n + yp))⟩) → Below w.heap.size w W' →
                (∃ (done : List Ent) (cz : Array Value), Aside0 (MW.ranges W' b wo.heap.size L.length L done) ∧ Aside0 (W'.heap[ob]? = some (.cells cz 88 (0, 0))) ∧ Aside0 (Best15 cz (done.foldl (tellStep time n) (tellTo k s time n))) ∧ Aside0 (∀ q, q < wo.heap.size → q ≠ ob → W'.heap[q]? = wo.heap[q]?) ∧ Aside0 (wo.heap.size ≤ W'.heap.size) ∧ Aside0 (Below w.heap.size w W')) ∧ W'.rangeLeft b wo.heap.size < wz.rangeLeft b wo.heap.size from fun W' hfr ⟨cz', h1, h2⟩ hbl => by
              obtain ⟨a1, a2, a3, a4⟩ := KEEP.out W' cz' hfr.same hfr.size
              refine ⟨⟨_, cz', a1, ⟨h1⟩, ⟨?_⟩, a2, a3, ⟨hbl⟩⟩, a4⟩
              rw [List.foldl_append, HBB.out]
              show Best15 cz' (tellStep time n B _)
              unfold tellStep
              rw [if_pos HCX.out]
              exact h2)
            go_wp2_with fail
            go_region
            go_wp2_with fail
            all_goals
              refine CLOSE.out _ (by with_reducible (repeat (first | exact Fr.refl _ _ | apply Fr.drew | apply Fr.alloc | apply Fr.set))) ?_ ?_
              · apply Exists.intro
                apply And.intro
                · with_reducible (repeat (first | exact HO4.out | apply blk_drew | apply blk_alloc | apply blk_set))
                · first
                  | (refine (((HV4.out.putc HC13.out _).put0 _).put1 _).cast ?_ ?_ <;> (try dsimp only) <;> (try unfold tmin) <;> (repeat' split) <;> omega)
                  | (refine ((HV4.out.putc HC13.out _).put0 _).cast ?_ ?_ <;> (try dsimp only) <;> (try unfold tmin) <;> (repeat' split) <;> omega)
                  | (refine ((HV4.out.putc HC13.out _).put1 _).cast ?_ ?_ <;> (try dsimp only) <;> (try unfold tmin) <;> (repeat' split) <;> omega)
                  | (refine (HV4.out.putc HC13.out _).cast ?_ ?_ <;> (try dsimp only) <;> (try unfold tmin) <;> (repeat' split) <;> omega)
              · with_reducible (repeat (first | exact HB4.out | refine Below.drew ?_ | refine below_alloc ?_ _ | refine bl_set _ HNE.out.2.1 ?_))
          · have e0 : (xt != time) = true := by simp [cx]
            have HCX := Aside0.mk cx
            clear cx
            go_wp2_with fail
            obtain ⟨a1, a2, a3, a4⟩ := KEEP.out _ cz (fun q hq _ => ((below_alloc (below_alloc (Below.refl _ _) (.cells #[.int .i64 x0, .int .i64 x1, .int .i64 x2, .int .i64 x3, .int .i64 xt] 125 (0, 0))) (.cells #[.int .i64 yp, .int .i64 yt] 127 (0, 0))) : Below w4.heap.size w4 _).block q hq) (by simp; omega)
            refine ⟨⟨_, cz, a1, ⟨blk_alloc (blk_alloc HO4.out _) _⟩, ⟨?_⟩, a2, a3, ⟨below_alloc (below_alloc HB4.out _) _⟩⟩, a4⟩
            rw [List.foldl_append]
            have : tellStep time n (done.foldl (tellStep time n) (tellTo k s time n)) (((x0, x1, x2, x3), xt), (yp, yt)) = done.foldl (tellStep time n) (tellTo k s time n) := if_neg HCX.out
            show Best15 cz (tellStep time n _ _)
            rw [this]
            exact HVz.out
    · have c0 : decide ((n : Int) < 13) = false := decide_eq_false (by omega)
      have e13 : n = 13 := by omega
      have hv := HV.out
      rw [e13] at hv
      have ho : ∀ j v, cs[j]? = some v → wo.cell? ⟨ob, j, none⟩ = some v := fun j v h => (blk_cell HO.out j).trans h
      have z0 := ho 0 _ hv.s0
      have z1 := ho 1 _ hv.s1
      have z2 := ho 2 _ (hv.sc 0 (by omega))
      have z3 := ho 3 _ (hv.sc 1 (by omega))
      have z4 := ho 4 _ (hv.sc 2 (by omega))
      have z5 := ho 5 _ (hv.sc 3 (by omega))
      have z6 := ho 6 _ (hv.sc 4 (by omega))
      have z7 := ho 7 _ (hv.sc 5 (by omega))
      have z8 := ho 8 _ (hv.sc 6 (by omega))
      have z9 := ho 9 _ (hv.sc 7 (by omega))
      have z10 := ho 10 _ (hv.sc 8 (by omega))
      have z11 := ho 11 _ (hv.sc 9 (by omega))
      have z12 := ho 12 _ (hv.sc 10 (by omega))
      have z13 := ho 13 _ (hv.sc 11 (by omega))
      have z14 := ho 14 _ (hv.sc 12 (by omega))
      have y0 : wo.cell? ⟨rb, 0, none⟩ = some (.int .i64 0) := (blk_cell HQ.out 0).trans rfl
      have y1 : wo.cell? ⟨rb, 1, none⟩ = some (.int .i64 0) := (blk_cell HQ.out 1).trans rfl
      have y2 : wo.cell? ⟨rb, 2, none⟩ = some (.int .i64 0) := (blk_cell HQ.out 2).trans rfl
      have y3 : wo.cell? ⟨rb, 3, none⟩ = some (.int .i64 0) := (blk_cell HQ.out 3).trans rfl
      have y4 : wo.cell? ⟨rb, 4, none⟩ = some (.int .i64 0) := (blk_cell HQ.out 4).trans rfl
      have y5 : wo.cell? ⟨rb, 5, none⟩ = some (.int .i64 0) := (blk_cell HQ.out 5).trans rfl
      have y6 : wo.cell? ⟨rb, 6, none⟩ = some (.int .i64 0) := (blk_cell HQ.out 6).trans rfl
      have y7 : wo.cell? ⟨rb, 7, none⟩ = some (.int .i64 0) := (blk_cell HQ.out 7).trans rfl
      have y8 : wo.cell? ⟨rb, 8, none⟩ = some (.int .i64 0) := (blk_cell HQ.out 8).trans rfl
      have y9 : wo.cell? ⟨rb, 9, none⟩ = some (.int .i64 0) := (blk_cell HQ.out 9).trans rfl
      have y10 : wo.cell? ⟨rb, 10, none⟩ = some (.int .i64 0) := (blk_cell HQ.out 10).trans rfl
      have y11 : wo.cell? ⟨rb, 11, none⟩ = some (.int .i64 0) := (blk_cell HQ.out 11).trans rfl
      have y12 : wo.cell? ⟨rb, 12, none⟩ = some (.int .i64 0) := (blk_cell HQ.out 12).trans rfl
      have y13 : wo.cell? ⟨rb, 13, none⟩ = some (.int .i64 0) := (blk_cell HQ.out 13).trans rfl
      have y14 : wo.cell? ⟨rb, 14, none⟩ = some (.int .i64 0) := (blk_cell HQ.out 14).trans rfl
      have x0 : wo.frozen? ⟨rb, 0, none⟩ = false := blk_frozen HQ.out 0
      have x1 : wo.frozen? ⟨rb, 1, none⟩ = false := blk_frozen HQ.out 1
      have x2 : wo.frozen? ⟨rb, 2, none⟩ = false := blk_frozen HQ.out 2
      have x3 : wo.frozen? ⟨rb, 3, none⟩ = false := blk_frozen HQ.out 3
      have x4 : wo.frozen? ⟨rb, 4, none⟩ = false := blk_frozen HQ.out 4
      have x5 : wo.frozen? ⟨rb, 5, none⟩ = false := blk_frozen HQ.out 5
      have x6 : wo.frozen? ⟨rb, 6, none⟩ = false := blk_frozen HQ.out 6
      have x7 : wo.frozen? ⟨rb, 7, none⟩ = false := blk_frozen HQ.out 7
      have x8 : wo.frozen? ⟨rb, 8, none⟩ = false := blk_frozen HQ.out 8
      have x9 : wo.frozen? ⟨rb, 9, none⟩ = false := blk_frozen HQ.out 9
      have x10 : wo.frozen? ⟨rb, 10, none⟩ = false := blk_frozen HQ.out 10
      have x11 : wo.frozen? ⟨rb, 11, none⟩ = false := blk_frozen HQ.out 11
      have x12 : wo.frozen? ⟨rb, 12, none⟩ = false := blk_frozen HQ.out 12
      have x13 : wo.frozen? ⟨rb, 13, none⟩ = false := blk_frozen HQ.out 13
      have x14 : wo.frozen? ⟨rb, 14, none⟩ = false := blk_frozen HQ.out 14
      have nro : ¬ rb = ob := by have := HNE.out; omega
      have nor : ¬ ob = rb := by have := HNE.out; omega
      have hlr : rb < wo.heap.size := blk_lt HQ.out
      clear ho hv e13
      go_wp2_with fail
      clear z0 z1 z2 z3 z4 z5 z6 z7 z8 z9 z10 z11 z12 z13 z14 y0 y1 y2 y3 y4 y5 y6 y7 y8 y9 y10 y11 y12 y13 y14 x0 x1 x2 x3 x4 x5 x6 x7 x8 x9 x10 x11 x12 x13 x14
      have hq := HQ.out
      obtain ⟨B, hB⟩ : ∃ B, tellTo k s time 13 = B := ⟨_, rfl⟩
      rw [hB]
      exact bodyPost_ret (best_final wo rb _ B _ rfl hq) rfl ⟨by rw [← hB], bl_set _ HNE.out.1 (bl_set _ HNE.out.1 (bl_set _ HNE.out.1 (bl_set _ HNE.out.1 (bl_set _ HNE.out.1 (bl_set _ HNE.out.1 (bl_set _ HNE.out.1 (bl_set _ HNE.out.1 (bl_set _ HNE.out.1 (bl_set _ HNE.out.1 (bl_set _ HNE.out.1 (bl_set _ HNE.out.1 (bl_set _ HNE.out.1 (bl_set _ HNE.out.1 (bl_set _ HNE.out.1 (HB.out)))))))))))))))⟩
end Go.Proofs.Ytlhodfjdmafapaa
