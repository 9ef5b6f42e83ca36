/- Rows of steps; whether a step lies in a row. No statement of the seat is proved here. -/
import Derived.Test.YtlhodfjdmafapaaQueue
import Derived.Test.YtlhodfjdmafapaaPSpan
import Derived.DeepKeys
import Derived.Test.YtlhodfjdmafapaaSets
import Derived.Test.YtlhodfjdmafapaaBaseTwo
import Derived.Deep.RegionHeld3
import Derived.Deep.DeepCutAuto
import Derived.Test.YtlhodfjdmafapaaOMap
import Derived.Laws.Bits64b
import Derived.Test.YtlhodfjdmafapaaNar
section
namespace Go.Proofs.Ytlhodfjdmafapaa
open Go.RowKit Go.Maps Go.Proofs.YtlhodfjdmafapaaW.PrintWords Go.Proofs.YtlhodfjdmafapaaW.PrintLast
set_option linter.unusedVariables false
set_option linter.unusedSimpArgs false
def kE : Kd Edge := Kd.pair k4 (Kd.int .i64)
theorem flatE : Flat kE := fun _ _ _ _ _ _ h => h
theorem kE_open {w : World} {x : Edge} {cs : List Value} (h : kE.K w x cs) : cs = [.int .i64 x.1.1, .int .i64 x.1.2.1, .int .i64 x.1.2.2.1, .int .i64 x.1.2.2.2, .int .i64 x.2] := by
  obtain ⟨_, _, rfl, h0, rfl⟩ := h
  obtain rfl := k4_open h0
  exact rfl
theorem kE_mkM (w : World) (base : Nat) (ok : Nat → Prop) (x : Edge) : kE.M w base ok x [.int .i64 x.1.1, .int .i64 x.1.2.1, .int .i64 x.1.2.2.1, .int .i64 x.1.2.2.2, .int .i64 x.2] := ⟨[.int .i64 x.1.1, .int .i64 x.1.2.1, .int .i64 x.1.2.2.1, .int .i64 x.1.2.2.2], [.int .i64 x.2], rfl, k4_mkM w base ok x.1, rfl⟩
theorem at_kE {w : World} {A : Option Addr} {n : Nat} {xs : List Edge} (h : Kd.C kE w A n xs) (i : Nat) (s : Edge) (hs : xs[i]? = some s) : ∃ ad, A = some ad ∧ w.cell? (ad.add (i * 5)) = some (.int .i64 s.1.1) ∧ w.cell? ⟨(ad.add (i * 5)).block, (ad.add (i * 5)).off + 1, none⟩ = some (.int .i64 s.1.2.1) ∧ w.cell? ⟨(ad.add (i * 5)).block, (ad.add (i * 5)).off + 2, none⟩ = some (.int .i64 s.1.2.2.1) ∧ w.cell? ⟨(ad.add (i * 5)).block, (ad.add (i * 5)).off + 3, none⟩ = some (.int .i64 s.1.2.2.2) ∧ w.cell? ⟨(ad.add (i * 5)).block, (ad.add (i * 5)).off + 4, none⟩ = some (.int .i64 s.2) := by
  have hl : i < xs.length := by
    rcases Nat.lt_or_ge i xs.length with q | q
    · exact q
    · rw [List.getElem?_eq_none q] at hs; cases hs
  obtain ⟨ad, c, e, _, hK, hc0⟩ := Kd.C_get h ((0, 0, 0, 0), 0) (i : Int) (by omega) (by have := Kd.C_len h; omega)
  have hc : ∀ j u, c[j]? = some u → w.cell? (ad.add (i * 5 + j)) = some u := hc0
  rw [show xs.getD (i : Int).toNat ((0, 0, 0, 0), 0) = s by rw [Int.toNat_natCast, List.getD_eq_getElem?_getD, hs]; rfl] at hK
  obtain rfl := kE_open hK
  exact ⟨ad, e, hc 0 _ rfl, by rw [← add_field _ _ 1 (by omega)]; exact hc 1 _ rfl, by rw [← add_field _ _ 2 (by omega)]; exact hc 2 _ rfl, by rw [← add_field _ _ 3 (by omega)]; exact hc 3 _ rfl, by rw [← add_field _ _ 4 (by omega)]; exact hc 4 _ rfl⟩
set_option maxRecDepth 100000 in
/-- arrays of four ints are told apart -/
theorem eq_arr4 {x y : Sd} (hx : good4 x) (hy : good4 y) (w : World) : (Op.equalIn 9999 22 (.agg #[.int .i64 x.1, .int .i64 x.2.1, .int .i64 x.2.2.1, .int .i64 x.2.2.2]) (.agg #[.int .i64 y.1, .int .i64 y.2.1, .int .i64 y.2.2.1, .int .i64 y.2.2.2])).run Try.prog w = .ok (decide (x = y)) w := by
  have key : ∀ z : Sd, good4 z → Program.keyLits Try.prog 2 22 [.int .i64 z.1, .int .i64 z.2.1, .int .i64 z.2.2.1, .int .i64 z.2.2.2] = some (lits4 z) := fun z h => keyLits4 arr4 Try.underlying3 0 (wf30 h.1) (wf30 h.2.1) (wf30 h.2.2.1) (wf30 h.2.2.2)
  have fm : ∀ z : Sd, Value.formed Try.prog 22 (.agg #[.int .i64 z.1, .int .i64 z.2.1, .int .i64 z.2.2.1, .int .i64 z.2.2.2]) = true := fun z => by simp [Value.formed, Try.underlying22, arr4.size]
  obtain ⟨r, h1, h2⟩ := run_equalIn_deep (P := Try.prog) 9997 2 22 (by kernel_rfl) w 2 2 _ _ _ _ (fm x) (fm y) (key x hx) (key y hy)
  have hl : (lits4 x = lits4 y) ↔ x = y := by
    obtain ⟨x0, x1, x2, x3⟩ := x
    obtain ⟨y0, y1, y2, y3⟩ := y
    simp [lits4]
  rw [hl] at h2
  have hr : r = decide (x = y) := by
    cases r
    · exact (decide_eq_false (fun e => by simpa using h2.2 e)).symm
    · exact (decide_eq_true (h2.1 rfl)).symm
  rw [← hr]
  exact h1
def goodE (e : Edge) : Prop := good4 e.1
set_option maxHeartbeats 1600000 in
theorem index_any (A : Option Addr) (c : Nat) (es : List Edge) (e : Edge) (he : goodE e) (hes : ∀ x ∈ es, goodE x) (hlen : es.length ≤ 16) (w : World) (hC : Kd.C kE w A es.length es) (hc : es.length ≤ c) :
    Calls Try.prog 117 #[.slice A es.length c, .agg #[.int .i64 e.1.1, .int .i64 e.1.2.1, .int .i64 e.1.2.2.1, .int .i64 e.1.2.2.2, .int .i64 e.2]] w fun en w' => (∃ i : Int, en = .returned (.int .i64 i) ∧ (0 ≤ i ↔ e ∈ es) ∧ -1 ≤ i ∧ i ≤ 16) ∧ Below w.heap.size w w' := by
  have HC := Aside0.mk hC
  have HES := Aside0.mk hes
  have HE := Aside0.mk he
  obtain ⟨⟨e0, e1, e2, e3⟩, e4⟩ := e
  clear hC hes he
  go_enter Try.func117, Try.ntmps117
  go_wp2_with fail
  obtain ⟨w0, hw0⟩ : ∃ w0, w0 = w.alloc (.cells #[.int .i64 e0, .int .i64 e1, .int .i64 e2, .int .i64 e3, .int .i64 e4] 109 (0, 0)) := ⟨_, rfl⟩
  have HK := Aside0.mk (show w0.heap[w.heap.size]? = some (.cells #[.int .i64 e0, .int .i64 e1, .int .i64 e2, .int .i64 e3, .int .i64 e4] 109 (0, 0)) from by rw [hw0]; exact heap_alloc_new w _)
  have HB0 := Aside0.mk (show Below w.heap.size w w0 from by rw [hw0]; exact below_alloc (Below.refl _ _) _)
  have HC0 := Aside0.mk (Kd.C_below HC.out HB0.out)
  rw [← hw0]
  clear hw0
  go_loopw [8] (fun v8 wr => ∃ i : Nat, v8 = .int .i64 i ∧ Aside0 (i ≤ es.length) ∧ Aside0 (∀ j : Nat, j < i → es[j]? ≠ some ((e0, e1, e2, e3), e4)) ∧ Aside0 (Below w0.heap.size w0 wr)) (fun v8 _ => es.length - (intOf v8).toNat)
  case atStart => exact ⟨0, rfl, ⟨Nat.zero_le _⟩, ⟨fun j hj => absurd hj (Nat.not_lt_zero _)⟩, ⟨Below.refl _ _⟩⟩
  case round =>
    obtain ⟨i, rfl, HI, HN, HB⟩ := hrel
    obtain ⟨wo, rfl⟩ : ∃ wo : World, wo = wr := ⟨_, rfl⟩
    have hil := HI.out
    by_cases ci : i < es.length
    · have c0 : decide (i < es.length) = true := decide_eq_true ci
      have c1 : decide ((i : Int) < (es.length : Int)) = true := decide_eq_true (by omega)
      obtain ⟨⟨⟨x0, x1, x2, x3⟩, x4⟩, hx⟩ : ∃ x, es[i]? = some x := ⟨_, List.getElem?_eq_getElem ci⟩
      obtain ⟨ad, rfl, h0, h1, h2, h3, h4⟩ := at_kE (Kd.C_below HC0.out HB.out) i _ hx
      have HX := Aside0.mk hx
      have hK := blk_below HK.out HB.out
      have q0 : wo.cell? ⟨w.heap.size, 0, none⟩ = some (.int .i64 e0) := (blk_cell hK 0).trans rfl
      have q1 : wo.cell? ⟨w.heap.size, 1, none⟩ = some (.int .i64 e1) := (blk_cell hK 1).trans rfl
      have q2 : wo.cell? ⟨w.heap.size, 2, none⟩ = some (.int .i64 e2) := (blk_cell hK 2).trans rfl
      have q3 : wo.cell? ⟨w.heap.size, 3, none⟩ = some (.int .i64 e3) := (blk_cell hK 3).trans rfl
      have q4 : wo.cell? ⟨w.heap.size, 4, none⟩ = some (.int .i64 e4) := (blk_cell hK 4).trans rfl
      have harr := eq_arr4 (x := (e0, e1, e2, e3)) (y := (x0, x1, x2, x3)) HE.out (HES.out _ (List.mem_of_getElem? hx))
      simp only [] at harr
      have p0 : (0 : Int) ≤ (i : Int) := by omega
      have p1 : (i : Int) < (es.length : Int) := by omega
      clear hx hK
      by_cases d1 : ((e0, e1, e2, e3) : Sd) = (x0, x1, x2, x3)
      · rw [decide_eq_true d1] at harr
        have HD1 := Aside0.mk d1
        clear d1
        by_cases d2 : e4 = x4
        · have d3 : (e4 == x4) = true := by simp [d2]
          have HD2 := Aside0.mk d2
          clear d2
          go_wp2_with fail
          go_quiet (fail)
          go_wp2_with fail
          go_ret
          refine ⟨⟨_, rfl, ⟨fun _ => ?_, fun _ => by omega⟩, by omega, by omega⟩, below_chain HB0.out (pw_below_drewN HB.out _)⟩
          have := List.mem_of_getElem? HX.out
          rw [← HD1.out, ← HD2.out] at this
          exact this
        · have d3 : (e4 == x4) = false := by simp [d2]
          have HD2 := Aside0.mk d2
          clear d2
          go_wp2_with fail
          go_quiet (fail)
          go_wp2_with fail
          exact ⟨⟨i + 1, by go_num, ⟨by omega⟩, ⟨fun j hj => by
            by_cases q : j = i
            · rw [q, HX.out]; intro e; exact HD2.out (Prod.mk.inj (Option.some.inj e)).2.symm
            · exact HN.out j (by omega)⟩, ⟨pw_below_drewN HB.out _⟩⟩, by simp only [intOf]; omega⟩
      · rw [decide_eq_false d1] at harr
        have HD1 := Aside0.mk d1
        clear d1
        go_wp2_with fail
        go_quiet (fail)
        go_wp2_with fail
        exact ⟨⟨i + 1, by go_num, ⟨by omega⟩, ⟨fun j hj => by
            by_cases q : j = i
            · rw [q, HX.out]; intro e; exact HD1.out (Prod.mk.inj (Option.some.inj e)).1.symm
            · exact HN.out j (by omega)⟩, ⟨pw_below_drewN HB.out _⟩⟩, by simp only [intOf]; omega⟩
    · have c0 : decide (i < es.length) = false := decide_eq_false ci
      have c1 : decide ((i : Int) < (es.length : Int)) = false := decide_eq_false (by omega)
      go_wp2_with fail
      go_ret
      refine ⟨⟨_, rfl, ⟨fun h => by omega, fun h => ?_⟩, by omega, by omega⟩, below_chain HB0.out HB.out⟩
      obtain ⟨j, hj⟩ := List.mem_iff_getElem?.1 h
      have hjl : j < es.length := by
        rcases Nat.lt_or_ge j es.length with q | q
        · exact q
        · rw [List.getElem?_eq_none q] at hj; cases hj
      exact absurd hj (HN.out j (by omega))
set_option maxHeartbeats 1600000 in
theorem contains_any (A : Option Addr) (c : Nat) (es : List Edge) (e : Edge) (b : Bool) (hb : decide (e ∈ es) = b) (he : goodE e) (hes : ∀ x ∈ es, goodE x) (hlen : es.length ≤ 16) (w : World) (hC : Kd.C kE w A es.length es) (hc : es.length ≤ c) :
    Calls Try.prog 102 #[.slice A es.length c, .agg #[.int .i64 e.1.1, .int .i64 e.1.2.1, .int .i64 e.1.2.2.1, .int .i64 e.1.2.2.2, .int .i64 e.2]] w fun en w' => en = .returned (.bool b) ∧ Below w.heap.size w w' := by
  have HI := fun W (hW : Below w.heap.size w W) => index_any A c es e he hes hlen W (Kd.C_below hC hW) hc
  obtain ⟨⟨e0, e1, e2, e3⟩, e4⟩ := e
  have HB := Aside0.mk hb
  clear hb hC he hes
  go_enter Try.func102, Try.ntmps102
  go_wp2_with fail
  refine (HI _ (below_alloc (Below.refl _ _) _)).mono ?_
  rintro en w1 ⟨⟨i, rfl, h1, h2, h3⟩, hbl⟩
  have HBL := Aside0.mk (below_chain (below_alloc (Below.refl w.heap.size w) _) hbl)
  have HV := Aside0.mk (show decide (0 ≤ i) = b from by rw [← HB.out]; exact decide_eq_decide.2 h1)
  clear h1 hbl HI
  go_wp2_with fail
  go_ret
  exact ⟨ret_bool HV.out, HBL.out⟩
end Go.Proofs.Ytlhodfjdmafapaa
end
section
namespace Go.Proofs.Ytlhodfjdmafapaa
open Go.RowKit Go.Maps Go.Proofs.YtlhodfjdmafapaaW.PrintWords Go.Proofs.YtlhodfjdmafapaaW.PrintLast
set_option linter.unusedVariables false
set_option linter.unusedSimpArgs false
def ME : MapKd Try.prog 22 Sd Value := mk4 (fun v => v) (fun _ _ e => e)
noncomputable def qE (k : Nat → Int) (L : List (Sd × Value)) (y : Sd) : List Edge := if (getA L y).isSome = true then edgesL k y else []
/-- the meter at block bm, its rows by the map be -/
structure Mtr (k : Nat → Int) (bm be base : Nat) (w : World) (L : List (Sd × Value)) : Prop where
  blk : w.heap[bm]? = some (.cells #[.int .i64 (k 0), .int .i64 (k 1), .int .i64 (k 2), .int .i64 (k 3), .map (some be)] 104 (0, 0))
  map : QL ME kE 109 w be base (fun _ => True) L.length (qE k L) L
  sand : ∀ p ∈ L, Sand k (fn4 p.1)
theorem Mtr.step {k : Nat → Int} {bm be base : Nat} {w w' : World} {L : List (Sd × Value)} (h : Mtr k bm be base w L) (hb : Below w.heap.size w w') : Mtr k bm be base w' L := ⟨blk_below h.blk hb, h.map.below hb, h.sand⟩
theorem grown_below {w w' : World} (h : Below w.heap.size w w') (row : Option Nat) : w.grownBy w' row := ⟨h.os, h.tape, h.output, h.size, fun k hk _ => h.block k hk⟩
theorem grown_trans {w w1 w2 : World} {row : Option Nat} (h1 : w.grownBy w1 row) (h2 : w1.grownBy w2 row) : w.grownBy w2 row :=
  ⟨h2.os.trans h1.os, h2.tape.trans h1.tape, h2.output.trans h1.output, Nat.le_trans h1.size h2.size, fun k hk hne => (h2.block k (Nat.lt_of_lt_of_le hk h1.size) hne).trans (h1.block k hk hne)⟩
theorem box_new {W : World} {o : Obj} {n : Nat} (h : W.heap.size = n) : (W.alloc o).heap[n]? = some o := h ▸ heap_alloc_new W o
theorem infoE : (Try.prog.info? 109).map (fun i => (i.zero, i.size, i.bytes)) = some (some (.agg #[(.int .i64 0), (.int .i64 0), (.int .i64 0), (.int .i64 0), (.int .i64 0)]), 5, 40) := by kernel_rfl
theorem zeroE (w : World) : (zeroValue 106).run Try.prog w = .ok (.slice none 0 0) w := by kernel_rfl
theorem edge_goodE {k : Nat → Int} {x : Sd} (hx : Sand k (fn4 x)) : ∀ e ∈ edgesL k x, goodE e := fun e he => sand_good (edge_ok hx he).1
def FromPost (k : Nat → Int) (bm be base : Nat) (x : Sd) (L : List (Sd × Value)) (w : World) (e : Ending) (w' : World) : Prop :=
  ∃ (v : Value) (L' : List (Sd × Value)), e = .returned v ∧ Mtr k bm be base w' L' ∧ (getA L' x).getD (.slice none 0 0) = v ∧ (getA L' x).isSome = true ∧ w.grownBy w' (some be)
theorem look_own {P : Program} {k : TypeId} {α β : Type} {M : MapKd P k α β} {w : World} {b n : Nat} {L : List (α × β)} (h : M.own w b n L) {t e : TypeId} (ht : P.underlying t = some (.map k e)) {z : β} (hz : ∀ u : World, (zeroValue e).run P u = .ok (M.eV z) u) {key : α} (hg : M.good key) (w' : World) (hb : Below w.heap.size w w') :
    (Instr.lookup t (.map (some b)) (M.eK key) true).run P w' = .ok (.tuple #[M.eV ((getA L key).getD z), .bool (getA L key).isSome]) w' := by
  obtain ⟨D, h1, h2⟩ := MapKd.own_below h hb
  obtain ⟨v, ps, hrun, hv⟩ := h1.look_ok M.law ht (hz w') (show rdV (M.eV z) = some (.held (M.eV z), []) from rfl) (M.key key hg)
  have hv' : v = M.eV ((getA L key).getD z) := by
    simp only [rdV, Option.some.injEq, Prod.mk.injEq] at hv
    cases e1 : getA L key with
    | some y => rw [h2.at_some e1] at hv; simpa using hv.1
    | none => rw [Maps.atKey_of_not_has (h2.has_none hg e1)] at hv; simpa using hv.1
  rw [h2.has_eq hg, hv'] at hrun
  exact hrun
theorem qE_some {k : Nat → Int} {L : List (Sd × Value)} {y : Sd} (h : (getA L y).isSome = true) : qE k L y = edgesL k y := by unfold qE; rw [if_pos h]
theorem R_map {β : Type} {d : Kd β} (hd : Flat d) {e base : Nat} {ok : Nat → Prop} {w w' : World} {v : Value} {xs : List β} (h : d.R e w base ok v xs) {b : Nat} (hm : ∃ es c, w.heap[b]? = some (.map es c)) (hg : w.grownBy w' (some b)) : d.R e w' base ok v xs :=
  R_only hd h (fun j hj => hg.block j (Kd.R_lt h j hj) (fun e1 => by
    obtain ⟨cells, hc⟩ := Kd.R_typed h j hj
    obtain ⟨es, c, hm⟩ := hm
    rw [Option.some.inj e1, hm] at hc; cases hc))
theorem Mtr.put {k : Nat → Int} {bm be base : Nat} {w W w' : World} {L : List (Sd × Value)} (h : Mtr k bm be base w L) (hb : Below w.heap.size w W) {x : Sd} {v : Value} (hx : Sand k (fn4 x)) (hn : getA L x = none)
    (hR : kE.R 109 W w.heap.size (fun _ => True) v (edgesL k x)) (hbase : base ≤ w.heap.size) (hown : ME.own w' be (L.length + 1) (putA L x v)) (hg : W.grownBy w' (some be)) : Mtr k bm be base w' (putA L x v) := by
  have h2 := h.step hb
  have hmap := h2.map.is
  refine ⟨blk_grown h2.blk hg (fun e => ?_), ⟨MapKd.own_tight hown, fun p hp => ?_, fun y hy => ?_, ?_⟩, fun p hp => ?_⟩
  · obtain ⟨es, c, hm⟩ := hmap
    have := h2.blk
    rw [Option.some.inj e, hm] at this
    cases this
  · rw [putA_absent hn] at hp
    rw [qE_some (by
      rcases List.mem_cons.1 hp with rfl | hp
      · rw [getA_put, if_pos rfl]; rfl
      · rw [getA_put]
        split
        · rfl
        · rw [getA_mem (MapKd.own_nodup h.map.own) (x := p.1) (y := p.2) hp]; rfl)]
    rcases List.mem_cons.1 hp with rfl | hp
    · exact Kd.R_lower (R_map flatE hR hmap hg) hbase
    · have := h2.map.row p hp
      rw [qE_some (by rw [getA_mem (MapKd.own_nodup h.map.own) (x := p.1) (y := p.2) hp]; rfl)] at this
      exact R_map flatE this hmap hg
  · unfold qE
    rw [hy]
    rfl
  · rw [putA_absent hn]
    refine List.pairwise_cons.2 ⟨fun p hp j hj e1 => ?_, h.map.apart⟩
    have h3 := Kd.R_lt (h.map.row p hp) j e1
    have h4 := Kd.R_base hR j hj
    omega
  · rw [putA_absent hn] at hp
    rcases List.mem_cons.1 hp with rfl | hp
    · exact hx
    · exact h.sand p hp
theorem store_own {P : Program} {k : TypeId} {α β : Type} {M : MapKd P k α β} {w : World} {b n : Nat} {L : List (α × β)} (h : M.own w b n L) {t e : TypeId} (ht : P.underlying t = some (.map k e)) (hn : n < maxLen) {key : α} (val : β) (hg : M.good key) :
    ∃ w', (Instr.mapUpdate t (.map (some b)) (M.eK key) (M.eV val)).run P w = .ok () w' ∧ M.own w' b (n + 1) (putA L key val) ∧ w.grownBy w' (some b) := by
  obtain ⟨D, h1, h2⟩ := h
  obtain ⟨w', hrun, r1, r2⟩ := h1.store M.law ht hn (M.key key hg) (show rdV (M.eV val) = some (.held (M.eV val), []) from rfl)
  exact ⟨w', hrun, ⟨_, r1, h2.put hg val⟩, r2.grown⟩
set_option maxRecDepth 100000 in
set_option maxHeartbeats 4000000 in
theorem from_any (k : Nat → Int) (bm be base : Nat) (x0 x1 x2 x3 : Int) (L : List (Sd × Value)) (hk : isKitB k = true) (hx : Sand k (fn4 (x0, x1, x2, x3))) (w : World) (hm : Mtr k bm be base w L) (hbase : base ≤ w.heap.size) :
    Calls Try.prog 81 #[.pointer (some ⟨bm, 0, none⟩), .agg #[.int .i64 x0, .int .i64 x1, .int .i64 x2, .int .i64 x3]] w (FromPost k bm be base (x0, x1, x2, x3) L w) := by
  have HM := Aside0.mk hm
  have HX := Aside0.mk hx
  have HG := Aside0.mk (sand_good hx)
  have HBS := Aside0.mk hbase
  have HKB := Aside0.mk hk
  clear hm hx hbase hk
  go_enter Try.func81, Try.ntmps81
  go_wp2_with fail
  obtain ⟨w0, hw0⟩ : ∃ w0, w0 = w.alloc (.cells #[.int .i64 x0, .int .i64 x1, .int .i64 x2, .int .i64 x3] 22 (0, 0)) := ⟨_, rfl⟩
  have HB0 := Aside0.mk (show Below w.heap.size w w0 from by rw [hw0]; exact below_alloc (Below.refl _ _) _)
  have HXB := Aside0.mk (show w0.heap[w.heap.size]? = some (.cells #[.int .i64 x0, .int .i64 x1, .int .i64 x2, .int .i64 x3] 22 (0, 0)) from by rw [hw0]; exact heap_alloc_new w _)
  have HM0 := Aside0.mk (HM.out.step HB0.out)
  rw [← hw0]
  clear hw0
  have hlk : ∀ n : Nat, (Instr.lookup 102 (.map (some be)) (.agg #[.int .i64 x0, .int .i64 x1, .int .i64 x2, .int .i64 x3]) true).run Try.prog (w0.drewN n) = .ok (.tuple #[(getA L (x0, x1, x2, x3)).getD (.slice none 0 0), .bool (getA L (x0, x1, x2, x3)).isSome]) (w0.drewN n) := fun n => look_own (M := ME) HM0.out.map.own Try.underlying102 zeroE HG.out _ (pw_below_drewN (Below.refl _ _) n)
  have m4 : w0.cell? ⟨bm, 4, none⟩ = some (.map (some be)) := (blk_cell HM0.out.blk 4).trans rfl
  have r0 : w0.cell? ⟨w.heap.size, 0, none⟩ = some (.int .i64 x0) := (blk_cell HXB.out 0).trans rfl
  have r1 : w0.cell? ⟨w.heap.size, 1, none⟩ = some (.int .i64 x1) := (blk_cell HXB.out 1).trans rfl
  have r2 : w0.cell? ⟨w.heap.size, 2, none⟩ = some (.int .i64 x2) := (blk_cell HXB.out 2).trans rfl
  have r3 : w0.cell? ⟨w.heap.size, 3, none⟩ = some (.int .i64 x3) := (blk_cell HXB.out 3).trans rfl
  obtain ⟨v0, hv0⟩ : ∃ v0, (getA L (x0, x1, x2, x3)).getD (.slice none 0 0) = v0 := ⟨_, rfl⟩
  cases hg : (getA L (x0, x1, x2, x3)).isSome with
  | true =>
    rw [hv0, hg] at hlk
    have HV := Aside0.mk hv0
    have HGG := Aside0.mk hg
    clear hv0 hg
    go_quiet (fail)
    go_wp2_with fail
    go_ret
    have hb : Below w.heap.size w _ := pw_below_drewN HB0.out nq
    exact ⟨v0, L, rfl, HM.out.step hb, HV.out, HGG.out, grown_below hb _⟩
  | false =>
    have hnone : getA L (x0, x1, x2, x3) = none := by simpa using hg
    rw [hnone] at hlk
    have HN := Aside0.mk hnone
    clear hv0 hg hnone
    simp only [Option.getD_none, Option.isSome_none] at hlk
    go_quiet (fail)
    obtain ⟨w1, hw1⟩ : ∃ w1, w1 = w0.drewN nq := ⟨_, rfl⟩
    have HB1 := Aside0.mk (show Below w.heap.size w w1 from by rw [hw1]; exact pw_below_drewN HB0.out nq)
    have HXB1 := Aside0.mk (show w1.heap[w.heap.size]? = some (.cells #[.int .i64 x0, .int .i64 x1, .int .i64 x2, .int .i64 x3] 22 (0, 0)) from by rw [hw1]; exact blk_drewN HXB.out nq)
    have HM1 := Aside0.mk (HM.out.step HB1.out)
    rw [← hw1]
    clear hw1 hlk m4 r0 r1 r2 r3 HB0 HXB HM0
    have m0 : w1.cell? ⟨bm, 0, none⟩ = some (.int .i64 (k 0)) := (blk_cell HM1.out.blk 0).trans rfl
    have m1 : w1.cell? ⟨bm, 1, none⟩ = some (.int .i64 (k 1)) := (blk_cell HM1.out.blk 1).trans rfl
    have m2 : w1.cell? ⟨bm, 2, none⟩ = some (.int .i64 (k 2)) := (blk_cell HM1.out.blk 2).trans rfl
    have m3 : w1.cell? ⟨bm, 3, none⟩ = some (.int .i64 (k 3)) := (blk_cell HM1.out.blk 3).trans rfl
    go_wp2_with fail
    refine (sets_any k _).mono ?_
    rintro e w2 ⟨vs, rfl, hR2, hb2⟩
    have HB2 := Aside0.mk (below_chain HB1.out hb2)
    have HXB2 := Aside0.mk (blk_below HXB1.out hb2)
    obtain ⟨n2, hn2, hR2⟩ := R_at hR2
    obtain ⟨A0, c0, rfl, _, _⟩ := Kd.R_reads hR2
    have HS2 := Aside0.mk hR2
    have HN2 := Aside0.mk (show w.heap.size ≤ n2 from by have := HB1.out.size; omega)
    clear m0 m1 m2 m3 hR2 hb2 hn2
    have hsl := setsL_len k
    go_wp2_with fail
    go_loopw [5, 29] (fun v5 v29 wr => ∃ (j : Nat) (v : Value), v5 = v ∧ v29 = .int .i64 j ∧ Aside0 (j ≤ (setsL k).length) ∧ Aside0 (kE.R 109 wr w.heap.size (fun _ => True) v (((setsL k).take j).foldl (edgeAdd k (x0, x1, x2, x3)) [])) ∧ Aside0 (wr.heap[w.heap.size]? = some (.cells #[.int .i64 x0, .int .i64 x1, .int .i64 x2, .int .i64 x3] 22 (0, 0))) ∧ Aside0 (Kd.R (Kd.int .i64) 3 wr n2 (fun _ => True) (.slice A0 (setsL k).length c0) (setsL k)) ∧ Aside0 (Below w.heap.size w wr)) (fun _ v29 _ => (setsL k).length - (intOf v29).toNat)
    case atStart => exact ⟨0, _, rfl, rfl, ⟨Nat.zero_le _⟩, ⟨Kd.R_nil _ _ _ _ _⟩, HXB2, HS2, HB2⟩
    case round =>
      obtain ⟨j, v, rfl, rfl, HJ, HR, HXr, HS, HB⟩ := hrel
      obtain ⟨wy, rfl⟩ : ∃ wy : World, wy = wr := ⟨_, rfl⟩
      have hj := HJ.out
      by_cases cj : j < (setsL k).length
      · have cj0 : decide (j < (setsL k).length) = true := decide_eq_true cj
        have cj1 : decide ((j : Int) < ((setsL k).length : Int)) = true := decide_eq_true (by omega)
        obtain ⟨set, hset⟩ : ∃ set, (setsL k)[j]? = some set := ⟨_, List.getElem?_eq_getElem cj⟩
        obtain ⟨at1, e1, ht1⟩ := Kd.at_int (Kd.R_reads' HS.out).2.2 (j : Int) (by omega) (by omega)
        cases e1
        rw [show rd (setsL k) (j : Int) = set by simp [rd, List.getD_eq_getElem?_getD, hset], show ((j : Int)).toNat = j from Int.toNat_natCast j] at ht1
        have HTK := Aside0.mk (show ((setsL k).take (j + 1)).foldl (edgeAdd k (x0, x1, x2, x3)) [] = edgeAdd k (x0, x1, x2, x3) (((setsL k).take j).foldl (edgeAdd k (x0, x1, x2, x3)) []) set from by
          rw [List.take_add_one, hset]
          simp)
        obtain ⟨acc, hacc⟩ : ∃ acc, acc = ((setsL k).take j).foldl (edgeAdd k (x0, x1, x2, x3)) [] := ⟨_, rfl⟩
        have HAL := Aside0.mk (show acc.length ≤ 16 from by
          have h1 := foldEdge_len (k := k) (x := (x0, x1, x2, x3)) ((setsL k).take j) []
          rw [← hacc] at h1
          have h2 : ((setsL k).take j).length ≤ 16 := by rw [List.length_take]; omega
          simp only [List.length_nil] at h1
          omega)
        have HAG := Aside0.mk (show ∀ e ∈ acc, goodE e from fun e he => by
          rw [hacc] at he
          rcases (edge_fold _ _ _).1 he with he | ⟨s, hs, h1, h2⟩
          · exact absurd he List.not_mem_nil
          · rw [h2]; exact sand_good (sand_tup (HX.out.step s)))
        rw [← hacc] at HR HTK
        clear hacc
        have hd := HX.out.stepD set
        have hgd := sand_good (sand_tup (HX.out.step set))
        obtain ⟨d, hdd⟩ : ∃ d, stepD k (fn4 (x0, x1, x2, x3)) set = d := ⟨_, rfl⟩
        obtain ⟨t0, ht0⟩ : ∃ t, stepS k (fn4 (x0, x1, x2, x3)) set 0 = t := ⟨_, rfl⟩
        obtain ⟨t1, ht1'⟩ : ∃ t, stepS k (fn4 (x0, x1, x2, x3)) set 1 = t := ⟨_, rfl⟩
        obtain ⟨t2, ht2⟩ : ∃ t, stepS k (fn4 (x0, x1, x2, x3)) set 2 = t := ⟨_, rfl⟩
        obtain ⟨t3, ht3⟩ : ∃ t, stepS k (fn4 (x0, x1, x2, x3)) set 3 = t := ⟨_, rfl⟩
        have HSt : ∀ W : World, Calls Try.prog 66 #[A4 k, .agg #[.int .i64 x0, .int .i64 x1, .int .i64 x2, .int .i64 x3], .int .i64 set] W fun e w' => e = .returned (.tuple #[.agg #[.int .i64 t0, .int .i64 t1, .int .i64 t2, .int .i64 t3], .int .i64 d]) ∧ Below W.heap.size W w' := by
          intro W
          have := step_any k (fn4 (x0, x1, x2, x3)) set HX.out W
          rw [hdd] at this
          simp only [A4, ht0, ht1', ht2, ht3] at this
          exact this
        rw [hdd] at hd
        have HGO := Aside0.mk (show goS k (x0, x1, x2, x3) set = (t0, t1, t2, t3) from by rw [← ht0, ← ht1', ← ht2, ← ht3]; rfl)
        have HGD := Aside0.mk (show goD k (x0, x1, x2, x3) set = d from hdd)
        have HG4 := Aside0.mk (show good4 (t0, t1, t2, t3) from by rw [← ht0, ← ht1', ← ht2, ← ht3]; exact hgd)
        have b8 : 0 ≤ d := hd.1
        have b9 : d ≤ 30 := hd.2
        clear hset hd hgd hdd ht0 ht1' ht2 ht3
        have hMy := HM.out.step HB.out
        have m0 : wy.cell? ⟨bm, 0, none⟩ = some (.int .i64 (k 0)) := (blk_cell hMy.blk 0).trans rfl
        have m1 : wy.cell? ⟨bm, 1, none⟩ = some (.int .i64 (k 1)) := (blk_cell hMy.blk 1).trans rfl
        have m2 : wy.cell? ⟨bm, 2, none⟩ = some (.int .i64 (k 2)) := (blk_cell hMy.blk 2).trans rfl
        have m3 : wy.cell? ⟨bm, 3, none⟩ = some (.int .i64 (k 3)) := (blk_cell hMy.blk 3).trans rfl
        have r0 : wy.cell? ⟨w.heap.size, 0, none⟩ = some (.int .i64 x0) := (blk_cell HXr.out 0).trans rfl
        have r1 : wy.cell? ⟨w.heap.size, 1, none⟩ = some (.int .i64 x1) := (blk_cell HXr.out 1).trans rfl
        have r2 : wy.cell? ⟨w.heap.size, 2, none⟩ = some (.int .i64 x2) := (blk_cell HXr.out 2).trans rfl
        have r3 : wy.cell? ⟨w.heap.size, 3, none⟩ = some (.int .i64 x3) := (blk_cell HXr.out 3).trans rfl
        have l1 : bm < wy.heap.size := blk_lt hMy.blk
        have l2 : w.heap.size < wy.heap.size := blk_lt HXr.out
        clear hMy
        go_wp2_with fail
        have MK1 := Aside0.mk (show ∀ W' : World, Below wy.heap.size wy W' → W'.cell? ⟨bm, 0, none⟩ = some (.int .i64 (k 0)) ∧ W'.cell? ⟨bm, 1, none⟩ = some (.int .i64 (k 1)) ∧ W'.cell? ⟨bm, 2, none⟩ = some (.int .i64 (k 2)) ∧ W'.cell? ⟨bm, 3, none⟩ = some (.int .i64 (k 3)) ∧ W'.cell? ⟨w.heap.size, 0, none⟩ = some (.int .i64 (x0)) ∧ W'.cell? ⟨w.heap.size, 1, none⟩ = some (.int .i64 (x1)) ∧ W'.cell? ⟨w.heap.size, 2, none⟩ = some (.int .i64 (x2)) ∧ W'.cell? ⟨w.heap.size, 3, none⟩ = some (.int .i64 (x3)) from fun W' hb => ⟨keep_below hb m0, keep_below hb m1, keep_below hb m2, keep_below hb m3, keep_below hb r0, keep_below hb r1, keep_below hb r2, keep_below hb r3⟩)
        clear ht1 cj0 cj1 m0 m1 m2 m3 r0 r1 r2 r3
        go_cut [9, 10] (fun v9 v10 wx => ∃ gx : Nat, v9 = .pointer (some ⟨gx, 0, none⟩) ∧ v10 = .int .i64 d ∧ wx.cell? ⟨gx, 0, none⟩ = some (.int .i64 t0) ∧ wx.cell? ⟨gx, 1, none⟩ = some (.int .i64 t1) ∧ wx.cell? ⟨gx, 2, none⟩ = some (.int .i64 t2) ∧ wx.cell? ⟨gx, 3, none⟩ = some (.int .i64 t3) ∧ Aside0 (Below wy.heap.size wy wx))
        case first =>
          go_region_held3 (fun w' => w'.cell? ⟨bm, 0, none⟩ = some (.int .i64 (k 0)) ∧ w'.cell? ⟨bm, 1, none⟩ = some (.int .i64 (k 1)) ∧ w'.cell? ⟨bm, 2, none⟩ = some (.int .i64 (k 2)) ∧ w'.cell? ⟨bm, 3, none⟩ = some (.int .i64 (k 3)) ∧ w'.cell? ⟨w.heap.size, 0, none⟩ = some (.int .i64 (x0)) ∧ w'.cell? ⟨w.heap.size, 1, none⟩ = some (.int .i64 (x1)) ∧ w'.cell? ⟨w.heap.size, 2, none⟩ = some (.int .i64 (x2)) ∧ w'.cell? ⟨w.heap.size, 3, none⟩ = some (.int .i64 (x3)))
            (first | (refine MK1.out _ ?_; ((repeat first | (with_reducible assumption) | (with_reducible exact Below.refl _ _) | ((with_reducible refine bl_alloc _ ?_ ?_); focus (first | (simp; done) | (simp; omega) | omega | (with_reducible exact below_size (by with_reducible assumption)))) | ((with_reducible refine bl_set _ ?_ ?_); focus (first | (simp; done) | (simp; omega) | omega | (with_reducible exact below_size (by with_reducible assumption)))) | (with_reducible refine Below.drew ?_) | (with_reducible refine bl_drewN _ ?_)); done)))
            (first
              | (go_at_call 66; refine (HSt _).mono ?_; rintro e w5 ⟨rfl, hb5⟩; have q5 : Below wy.heap.size wy w5 := below_chain (by ((repeat first | (with_reducible assumption) | (with_reducible exact Below.refl _ _) | ((with_reducible refine bl_alloc _ ?_ ?_); focus (first | (simp; done) | (simp; omega) | omega | (with_reducible exact below_size (by with_reducible assumption)))) | ((with_reducible refine bl_set _ ?_ ?_); focus (first | (simp; done) | (simp; omega) | omega | (with_reducible exact below_size (by with_reducible assumption)))) | (with_reducible refine Below.drew ?_) | (with_reducible refine bl_drewN _ ?_)); done)) hb5; have z0 := below_size q5; try (have hx5 : w5.heap[wy.heap.size]? = some (.cells #[.int .i64 0, .int .i64 0, .int .i64 0, .int .i64 0] 22 (0, 0)) := blk_below (by first | (with_reducible refine box_new ?_; first | rfl | simp) | (with_reducible refine blk_drew (box_new ?_); first | rfl | simp)) hb5; have z1 := blk_lt hx5; have y0 : w5.cell? ⟨wy.heap.size, 0, none⟩ = some (.int .i64 0) := (blk_cell hx5 0).trans rfl; have y1 : w5.cell? ⟨wy.heap.size, 1, none⟩ = some (.int .i64 0) := (blk_cell hx5 1).trans rfl; have y2 : w5.cell? ⟨wy.heap.size, 2, none⟩ = some (.int .i64 0) := (blk_cell hx5 2).trans rfl; have y3 : w5.cell? ⟨wy.heap.size, 3, none⟩ = some (.int .i64 0) := (blk_cell hx5 3).trans rfl; have f0 := blk_frozen hx5 0; have f1 := blk_frozen hx5 1; have f2 := blk_frozen hx5 2; have f3 := blk_frozen hx5 3; clear hx5)))
          all_goals
            go_wp2_with fail
            go_meet
            refine ⟨_, rfl, rfl, ?_, ?_, ?_, ?_, ⟨by ((repeat first | (with_reducible assumption) | (with_reducible exact Below.refl _ _) | ((with_reducible refine bl_alloc _ ?_ ?_); focus (first | (simp; done) | (simp; omega) | omega | (with_reducible exact below_size (by with_reducible assumption)))) | ((with_reducible refine bl_set _ ?_ ?_); focus (first | (simp; done) | (simp; omega) | omega | (with_reducible exact below_size (by with_reducible assumption)))) | (with_reducible refine Below.drew ?_) | (with_reducible refine bl_drewN _ ?_)); done)⟩⟩
            all_goals (first | ((with_reducible refine set4_0 (.int .i64 0) ?_); (with_reducible assumption)) | ((with_reducible refine set4_1 (.int .i64 0) ?_); (with_reducible assumption)) | ((with_reducible refine set4_2 (.int .i64 0) ?_); (with_reducible assumption)) | ((with_reducible refine set4_3 (.int .i64 0) ?_); (with_reducible assumption)) | (simp [go_sem]; done))
        case rest =>
          obtain ⟨gx, rfl, rfl, t0c, t1c, t2c, t3c, HBc⟩ := hcut
          have HB2c := Aside0.mk (below_chain HB.out HBc.out)
          have HRc := Aside0.mk (Kd.R_below HR.out HBc.out)
          have HXc := Aside0.mk (blk_below HXr.out HBc.out)
          have HSc := Aside0.mk (Kd.R_below HS.out HBc.out)
          obtain ⟨Aa, ca, rfl, hca, hCa⟩ := Kd.R_reads HRc.out
          have HCa := Aside0.mk hCa
          have HCL := Aside0.mk hca
          clear hCa hca
          by_cases cd : 0 < d
          · have cd0 : decide (0 < d) = true := decide_eq_true cd
            go_wp2_with fail
            have BX : Below wc.heap.size wc (wc.alloc (.cells #[.int .i64 t0, .int .i64 t1, .int .i64 t2, .int .i64 t3, .int .i64 d] 109 (0, 0))) := below_alloc (Below.refl _ _) _
            cases hin : decide ((((t0, t1, t2, t3), d) : Edge) ∈ acc) with
            | true =>
              refine (contains_any Aa ca acc ((t0, t1, t2, t3), d) true hin HG4.out HAG.out HAL.out _ (Kd.C_below HCa.out BX) HCL.out).mono ?_
              rintro e w6 ⟨rfl, hb6⟩
              have HBX := Aside0.mk (below_chain BX hb6)
              have HSK := Aside0.mk (show edgeAdd k (x0, x1, x2, x3) acc set = acc from by
                unfold edgeAdd
                rw [if_neg]
                rw [HGO.out, HGD.out]
                exact fun h => h.2 (of_decide_eq_true hin))
              clear hin hb6 BX
              go_wp2_with fail
              exact ⟨⟨j + 1, _, rfl, by go_num, ⟨by omega⟩, ⟨by rw [HTK.out, HSK.out]; exact Kd.R_below HRc.out HBX.out⟩, ⟨blk_below HXc.out HBX.out⟩, ⟨Kd.R_below HSc.out HBX.out⟩, ⟨below_chain HB2c.out HBX.out⟩⟩, by simp only [intOf]; omega⟩
            | false =>
              refine (contains_any Aa ca acc ((t0, t1, t2, t3), d) false hin HG4.out HAG.out HAL.out _ (Kd.C_below HCa.out BX) HCL.out).mono ?_
              rintro e w6 ⟨rfl, hb6⟩
              have HBX := Aside0.mk (below_chain BX hb6)
              have HSK := Aside0.mk (show edgeAdd k (x0, x1, x2, x3) acc set = acc ++ [((t0, t1, t2, t3), d)] from by
                unfold edgeAdd
                rw [if_pos]
                · rw [HGO.out, HGD.out]
                · rw [HGO.out, HGD.out]
                  exact ⟨cd, of_decide_eq_false hin⟩)
              have hE := blk_below (heap_alloc_new wc (.cells #[.int .i64 t0, .int .i64 t1, .int .i64 t2, .int .i64 t3, .int .i64 d] 109 (0, 0))) hb6
              have e0c : w6.cell? ⟨wc.heap.size, 0, none⟩ = some (.int .i64 t0) := (blk_cell hE 0).trans rfl
              have e1c : w6.cell? ⟨wc.heap.size, 1, none⟩ = some (.int .i64 t1) := (blk_cell hE 1).trans rfl
              have e2c : w6.cell? ⟨wc.heap.size, 2, none⟩ = some (.int .i64 t2) := (blk_cell hE 2).trans rfl
              have e3c : w6.cell? ⟨wc.heap.size, 3, none⟩ = some (.int .i64 t3) := (blk_cell hE 3).trans rfl
              have e4c : w6.cell? ⟨wc.heap.size, 4, none⟩ = some (.int .i64 d) := (blk_cell hE 4).trans rfl
              have HR6 := Aside0.mk (Kd.R_below HRc.out HBX.out)
              have HB6 := Aside0.mk (below_chain HB2c.out HBX.out)
              have HX6 := Aside0.mk (blk_below HXc.out HBX.out)
              have HS6 := Aside0.mk (Kd.R_below HSc.out HBX.out)
              have HLA := Aside0.mk (show (acc.length + 1) * 40 ≤ 140737488355328 from by have := HAL.out; omega)
              clear hin hb6 BX hE
              go_wp2_with (first | (at_builtin; refine Kd.R_append kE (w0 := w) w.heap.size rfl (.tmp 54) (.tmp 56) 106 109 (.agg #[(.int .i64 0), (.int .i64 0), (.int .i64 0), (.int .i64 0), (.int .i64 0)]) 40 rfl Try.underlying106 infoE rfl (by decide) (by decide) _ acc ((t0, t1, t2, t3), d) [.int .i64 t0, .int .i64 t1, .int .i64 t2, .int .i64 t3, .int .i64 d] (fun _ => True) (fun _ => False) rfl (by first | (go_simp; done) | (go_simp; rfl)) (kE_mkM _ _ _ _) (fun _ h => h.elim) (fun _ _ => trivial) HR6.out HB6.out HB6.out.size HLA.out ?_; intro v4 w4 hO4 hB4 hg4 hat4) | fail)
              refine ⟨⟨j + 1, _, rfl, by go_num, ⟨by omega⟩, ⟨by rw [HTK.out, HSK.out]; exact hO4⟩, ⟨blk_grown HX6.out hg4 (Kd.R_ne HR6.out HX6.out (by decide))⟩, ⟨Kd.R_over' HS6.out (Kd.R_typed HR6.out) (by decide) hg4⟩, ⟨hB4⟩⟩, by simp only [intOf]; omega⟩
          · have cd0 : decide (0 < d) = false := decide_eq_false cd
            go_wp2_with fail
            have HBX := Aside0.mk (show Below wc.heap.size wc (wc.alloc (.cells #[.int .i64 t0, .int .i64 t1, .int .i64 t2, .int .i64 t3, .int .i64 d] 109 (0, 0))) from below_alloc (Below.refl _ _) _)
            have HSK := Aside0.mk (show edgeAdd k (x0, x1, x2, x3) acc set = acc from by
              unfold edgeAdd
              rw [if_neg]
              rw [HGD.out]
              exact fun h => cd h.1)
            exact ⟨⟨j + 1, _, rfl, by go_num, ⟨by omega⟩, ⟨by rw [HTK.out, HSK.out]; exact Kd.R_below HRc.out HBX.out⟩, ⟨blk_below HXc.out HBX.out⟩, ⟨Kd.R_below HSc.out HBX.out⟩, ⟨below_chain HB2c.out HBX.out⟩⟩, by simp only [intOf]; omega⟩
      · have cj0 : decide (j < (setsL k).length) = false := decide_eq_false cj
        have cj1 : decide ((j : Int) < ((setsL k).length : Int)) = false := decide_eq_false (by omega)
        have HFN := Aside0.mk (show ((setsL k).take j).foldl (edgeAdd k (x0, x1, x2, x3)) [] = edgesL k (x0, x1, x2, x3) from by
          rw [List.take_of_length_le (by omega)]
          rfl)
        rw [HFN.out] at HR
        have HMy := Aside0.mk (HM.out.step HB.out)
        have m4 : wy.cell? ⟨bm, 4, none⟩ = some (.map (some be)) := (blk_cell HMy.out.blk 4).trans rfl
        have r0 : wy.cell? ⟨w.heap.size, 0, none⟩ = some (.int .i64 x0) := (blk_cell HXr.out 0).trans rfl
        have r1 : wy.cell? ⟨w.heap.size, 1, none⟩ = some (.int .i64 x1) := (blk_cell HXr.out 1).trans rfl
        have r2 : wy.cell? ⟨w.heap.size, 2, none⟩ = some (.int .i64 x2) := (blk_cell HXr.out 2).trans rfl
        have r3 : wy.cell? ⟨w.heap.size, 3, none⟩ = some (.int .i64 x3) := (blk_cell HXr.out 3).trans rfl
        have HLL := Aside0.mk (few31s (kit_bounds HKB.out) (MapKd.own_nodup HM.out.map.own) HM.out.sand)
        have HRD := Aside0.mk (Kd.R_drew HR.out)
        have HMD := Aside0.mk (HMy.out.step (below_drew (Below.refl _ _)))
        obtain ⟨w', hrun, hown', hgr'⟩ := store_own (M := ME) HMD.out.map.own Try.underlying102 (by have := HLL.out; unfold maxLen; omega) u5 HG.out
        have hrun2 : (Instr.mapUpdate 102 (.map (some be)) (.agg #[.int .i64 x0, .int .i64 x1, .int .i64 x2, .int .i64 x3]) u5).run Try.prog wy.drew = .ok () w' := hrun
        have HOW := Aside0.mk hown'
        have HGR := Aside0.mk hgr'
        clear hrun hown' hgr' cj0 cj1
        go_wp2_with fail
        go_region
        all_goals
          go_wp2_with fail
          go_ret
          refine ⟨u5, putA L (x0, x1, x2, x3) u5, rfl, HM.out.put (below_drew HB.out) HX.out HN.out HRD.out HBS.out HOW.out HGR.out, ?_, ?_, grown_trans (grown_below (below_drew HB.out) _) HGR.out⟩
          · rw [getA_put, if_pos rfl]; rfl
          · rw [getA_put, if_pos rfl]; rfl
end Go.Proofs.Ytlhodfjdmafapaa
end
section
namespace Go.Proofs.Ytlhodfjdmafapaa
open Go.RowKit Go.Maps Go.WideShapes Go.ChangeMaps Go.MapKept
open Go.WideElems (Fit rd rg pl rd_key rd_val rg_of rd_mk other_key)
set_option linter.unusedVariables false
set_option linter.unusedSimpArgs false
section
variable {H : Type} {P : Program} {k : TypeId} {R : Value → Option (DataW H × List MemPlace)} {w : World} {b r n : Nat} {D : DataW H} {left : Lit → Bool} {cnt : Nat}
theorem map_set_perm {α : Type} : ∀ (l : List α) (j : Nat) (a : α), j < l.length → (l.set j a).Perm (a :: l.eraseIdx j)
  | [], j, a, h => absurd h (Nat.not_lt_zero _)
  | x :: l, 0, a, _ => by simp
  | x :: l, j + 1, a, h => by
    rw [List.set_cons_succ, List.eraseIdx_cons_succ]
    exact (List.Perm.cons x (map_set_perm l j a (by simpa using h))).trans (List.Perm.swap a x _)
theorem ranges_store {t e : TypeId} (h : w.ranges P k R b r n D left cnt) (K : Keyed P k) (ht : P.underlying t = some (.map k e)) {key val : Value} {kl : Lit} {yv : DataW H × List MemPlace} (hkey : keyOf P k key = some kl) (hv : R val = some yv) (hhas : Maps.has D kl = true) :
    ∃ w', (Instr.mapUpdate t (.map (some b)) key val).run P w = .ok () w' ∧ w'.ranges P k R b r n (D.put kl yv.1) left cnt ∧ w.grownBy w' (some b) ∧ w.heap.size = w'.heap.size := by
  have hne := h.ne
  obtain ⟨es, clock, since, seen, c0, hb, F, hs, rfl, hr, hold, rfl, hl1, hl2, hsc, hsk⟩ := h
  rcases K.find w hkey es.toList F.keys with ⟨h1, h2⟩ | ⟨j, e0, h1, h2, h3⟩
  · exfalso
    have hat := (atKey_sorted (es.toList.map (rg P k R)) (Maps.fit_rising K F) kl (K.key hkey)).1 (fun p hp e1 => by
      obtain ⟨x, hx, rfl⟩ := List.mem_map.1 hp
      obtain ⟨y, hy⟩ := F.reads x hx
      have m1 := rd_key hy
      rw [rg_of hy] at e1
      rw [e1] at m1
      exact h2 x hx (K.inj m1 hkey))
    rw [Maps.has_false_of_atKey hat] at hhas
    cases hhas
  · have hj : es[j]? = some e0 := by simpa using h2
    have hjl : j < es.toList.length := (List.getElem?_eq_some_iff.1 h2).1
    have hmem0 : e0 ∈ es.toList := List.mem_of_getElem? h2
    obtain ⟨y0, hy0⟩ := F.reads e0 hmem0
    have hk0 : (rg P k R e0).1 = kl := by
      have m1 := rd_key hy0
      rw [h3, hkey] at m1
      rw [rg_of hy0]
      exact (Option.some.inj m1).symm
    have hlist : (es.modify j (fun e' => { e' with key := key, val := val })).toList = es.toList.set j { e0 with key := key, val := val } := by rw [Array.toList_modify, modify_eq_set _ _ _ _ h2]
    have who : ∀ x ∈ es.toList.set j { e0 with key := key, val := val }, x = { e0 with key := key, val := val } ∨ x ∈ es.toList := by
      intro x hx
      rcases List.mem_or_eq_of_mem_set hx with hx | hx
      · exact .inr hx
      · exact .inl hx
    have hnew : rd P k R { e0 with key := key, val := val } = some (kl, yv.1) := rd_mk hkey hv
    have Fn : Fit P k R (es.modify j (fun e' => { e' with key := key, val := val })) clock := by
      refine ⟨by simpa using F.size, stamped_modify F.stamped _ _ (fun _ _ => rfl) (fun e' _ he' => ?_), fun x hx => ?_⟩
      · rw [hj] at he'; cases he'; exact h3.symm
      · rw [hlist] at hx
        rcases who x hx with rfl | hx
        · exact ⟨_, hnew⟩
        · exact F.reads x hx
    refine ⟨setBlock w b (.map (es.modify j (fun e' => { e' with key := key, val := val })) clock), ?_, ⟨_, clock, since, seen, c0, heap_setBlock_same hb _, Fn, by simpa using hs, ?_, (heap_setBlock_other hb _ hne).trans hr, fun x hx => ?_, ?_, fun x hx => ?_, fun x0 hx0 => ?_, hsc, hsk⟩, ?_, by simp [setBlock]⟩
    · simp [Instr.mapUpdate, run_underlying ht, MapKept.run_getObj_map hb, K.check w false hkey, h1, hj, h3, K.stays w hkey, MapKept.run_setObj_map _ hb, Result.andThen, setBlock]
    · rw [DataW.put_eq]
      congr 1
      refine (Maps.sorted_put K.one ⟨key, hkey⟩ (Maps.fit_keys F) (Maps.fit_apart K F) ?_).symm
      rw [Maps.filter_one K F hkey h2 h3, hlist, List.map_set, rg_of hnew]
      exact map_set_perm _ _ _ (by simpa using hjl)
    · rw [hlist] at hx
      rcases who x hx with rfl | hx
      · exact hold e0 hmem0
      · exact hold x hx
    · have e1 : (leftOf (es.modify j (fun e' => { e' with key := key, val := val })) seen).size = ((es.toList.set j { e0 with key := key, val := val }).filter fun e => !seen.contains e.born).length := by
        unfold leftOf
        rw [← Array.length_toList, Array.toList_filter, hlist]
      have e2 : (leftOf es seen).size = (es.toList.filter fun e => !seen.contains e.born).length := by
        unfold leftOf
        rw [← Array.length_toList, Array.toList_filter]
      rw [e1, e2, (map_set_perm es.toList j { e0 with key := key, val := val } hjl).filter _ |>.length_eq]
      have e3 : (es.toList.set j e0).Perm (e0 :: es.toList.eraseIdx j) := map_set_perm es.toList j e0 hjl
      have e4 : es.toList.set j e0 = es.toList := by
        apply List.ext_getElem?
        intro i
        rw [List.getElem?_set]
        split
        · rename_i q; subst q; exact h2.symm
        · rfl
      rw [e4] at e3
      rw [(e3.filter _).length_eq, List.filter_cons, List.filter_cons]
      split <;> simp
    · rw [hlist] at hx
      rcases who x hx with rfl | hx
      · rw [rg_of hnew]
        have := hl1 e0 hmem0
        rw [hk0] at this
        exact this
      · exact hl1 x hx
    · obtain ⟨x, hx, rfl⟩ := hl2 x0 hx0
      by_cases q : x.key = key
      · refine ⟨{ e0 with key := key, val := val }, ?_, ?_⟩
        · rw [hlist]
          exact List.mem_iff_getElem.2 ⟨j, by simpa using hjl, by simp⟩
        · rw [rg_of hnew]
          obtain ⟨y, hy⟩ := F.reads x hx
          have m1 := rd_key hy
          rw [q, hkey] at m1
          rw [rg_of hy]
          exact Option.some.inj m1
      · refine ⟨x, ?_, rfl⟩
        rw [hlist]
        obtain ⟨i, hi, ei⟩ := List.getElem_of_mem hx
        refine List.mem_iff_getElem.2 ⟨i, by simpa using hi, ?_⟩
        rw [List.getElem_set_ne]
        · exact ei
        · intro e1
          subst e1
          rw [List.getElem?_eq_getElem hi, ei] at h2
          exact q (by rw [Option.some.inj h2]; exact h3)
    · exact ⟨rfl, rfl, rfl, by simp [setBlock], fun i _ hi => heap_setBlock_other hb _ (fun e1 => hi (by rw [e1]))⟩
end
/-- the pairs, with a new element at x -/
def setA {α β : Type} [DecidableEq α] (L : List (α × β)) (x : α) (y : β) : List (α × β) := L.map fun p => if p.1 = x then (x, y) else p
theorem setA_keys {α β : Type} [DecidableEq α] (L : List (α × β)) (x : α) (y : β) : (setA L x y).map (·.1) = L.map (·.1) := by
  unfold setA
  rw [List.map_map]
  refine List.map_congr_left (fun p _ => ?_)
  simp only [Function.comp]
  split
  · rename_i q; exact q.symm
  · rfl
theorem setA_nd {α β : Type} [DecidableEq α] {L : List (α × β)} (h : L.Pairwise fun p q => p.1 ≠ q.1) (x : α) (y : β) : (setA L x y).Pairwise fun p q => p.1 ≠ q.1 := by
  have h1 : (L.map (·.1)).Pairwise (· ≠ ·) := by rw [List.pairwise_map]; exact h
  rw [← setA_keys L x y, List.pairwise_map] at h1
  exact h1
theorem setA_mem {α β : Type} [DecidableEq α] {L : List (α × β)} {x : α} {y : β} {p : α × β} (h : p ∈ L) : (if p.1 = x then (x, y) else p) ∈ setA L x y := List.mem_map.2 ⟨p, h, rfl⟩
theorem mem_setA {α β : Type} [DecidableEq α] {L : List (α × β)} {x : α} {y : β} {p : α × β} (h : p ∈ setA L x y) : (p = (x, y) ∧ ∃ z, (x, z) ∈ L) ∨ (p.1 ≠ x ∧ p ∈ L) := by
  obtain ⟨q, hq, rfl⟩ := List.mem_map.1 h
  split
  · rename_i c
    exact .inl ⟨rfl, q.2, by rw [← c]; exact hq⟩
  · rename_i c
    exact .inr ⟨c, hq⟩
theorem put_set_perm {α β : Type} [DecidableEq α] : ∀ {L : List (α × β)} {x : α} {y : β}, (L.Pairwise fun p q => p.1 ≠ q.1) → (∃ z, (x, z) ∈ L) → (putA L x y).Perm (setA L x y)
  | [], x, y, _, h => absurd h.choose_spec List.not_mem_nil
  | a :: L, x, y, hn, h => by
    obtain ⟨n1, n2⟩ := List.pairwise_cons.1 hn
    by_cases c : a.1 = x
    · have hno : ∀ p ∈ L, p.1 ≠ x := fun p hp e => n1 p hp (by rw [c, e])
      have e1 : delA (a :: L) x = L := by
        unfold delA
        rw [List.filter_cons, if_neg (by simp [c]), List.filter_eq_self]
        intro p hp
        simpa using hno p hp
      have e2 : setA (a :: L) x y = (x, y) :: L := by
        unfold setA
        rw [List.map_cons, if_pos c]
        congr 1
        exact (List.map_congr_left (fun p hp => if_neg (hno p hp))).trans (List.map_id _)
      unfold putA
      rw [e1, e2]
    · have hz : ∃ z, (x, z) ∈ L := by
        obtain ⟨z, hz⟩ := h
        rcases List.mem_cons.1 hz with hz | hz
        · exact absurd (by rw [← hz]) c
        · exact ⟨z, hz⟩
      have ih := put_set_perm (y := y) n2 hz
      have e1 : delA (a :: L) x = a :: delA L x := by
        unfold delA
        rw [List.filter_cons, if_pos (by simpa using c)]
      have e2 : setA (a :: L) x y = a :: setA L x y := by
        unfold setA
        rw [List.map_cons, if_neg c]
      unfold putA at ih ⊢
      rw [e1, e2]
      exact (List.Perm.swap a (x, y) _).trans (List.Perm.cons a ih)
section ops
variable {P : Program} {k : TypeId} {α β : Type} (w : World) {ops : Array Oper} {rest : List Oper} {o : Oper} {a : Act} {Q : Exit → Act → World → Prop}
/-- 'm[k] = v' in the round of a range over m, k being there -/
theorem wpList_update_ranges [DecidableEq α] (M : MapKd P k α β) (hg : o.guard = none) (m x v : Operand) (t : TypeId) (hop : o.op = Op.mapUpdate t m x v)
    (e : TypeId) (ht : P.underlying t = some (.map k e)) (b r n : Nat) (L done : List (α × β))
    (hm : a.eval m = .map (some b)) (h : M.ranges w b r n L done) (key : α) (val z : β) (hx : a.eval x = M.eK key) (hv : a.eval v = M.eV val) (hin : (key, z) ∈ L)
    (hK : ∀ w', M.ranges w' b r n (setA L key val) (setA done key val) → w'.rangeLeft b r = w.rangeLeft b r → w.grownBy w' (some b) → w.heap.size = w'.heap.size → wpList P ops Q rest (a.put o.dst undef) w') :
    wpList P ops Q (o :: rest) a w := by
  obtain ⟨D, left, cnt, todo, h1, h2, h3, h4, h5⟩ := h
  have hgd := h2.2.1 _ hin
  have hhas : Maps.has D (M.lK key) = true := h2.has_some (getA_mem h2.1 hin)
  obtain ⟨w', hrun, r1, r2, r3⟩ := ranges_store h1 M.law ht (M.key key hgd) (show rdV (M.eV val) = some (.held (M.eV val), []) from rfl) hhas
  refine wpList_plain hg fun K' hK' => ?_
  unfold Oper.wp
  simp [execOp, hop, hm, hx, hv, hrun, Result.andThen]
  refine hK' _ _ (hK w' ⟨_, left, cnt, setA todo key val, r1, (h2.put hgd val).perm (put_set_perm h2.1 ⟨z, hin⟩), ?_, fun p hp hl => ?_, fun p hp => ?_⟩ (by rw [r1.left_eq, h1.left_eq]) r2 r3)
  · have := h3.map (fun p : α × β => if p.1 = key then (key, val) else p)
    rw [List.map_append] at this
    exact this
  · obtain ⟨q, hq, rfl⟩ := List.mem_map.1 hp
    have hk : (if q.1 = key then (key, val) else q).1 = q.1 := by
      split
      · rename_i c; exact c.symm
      · rfl
    rw [hk] at hl
    exact setA_mem (h4 q hq hl)
  · obtain ⟨q, hq, rfl⟩ := List.mem_map.1 hp
    have hk : (if q.1 = key then (key, val) else q).1 = q.1 := by
      split
      · rename_i c; exact c.symm
      · rfl
    rw [hk]
    exact h5 q hq
end ops
end Go.Proofs.Ytlhodfjdmafapaa
end
section
namespace Go.Proofs.Ytlhodfjdmafapaa
open Go.RowKit Go.Maps Go.Proofs.YtlhodfjdmafapaaW.PrintWords Go.Proofs.YtlhodfjdmafapaaW.PrintLast
set_option linter.unusedVariables false
set_option linter.unusedSimpArgs false
def MU : MapKd Try.prog 22 Sd Int := mk4 (Value.int .u64) (fun a b e => by injection e)
theorem info4q : (Try.prog.info? 22).map (fun i => (i.zero, i.size, i.bytes)) = some (some (.agg #[(.int .i64 0), (.int .i64 0), (.int .i64 0), (.int .i64 0)]), 4, 32) := by kernel_rfl
theorem zeroU (w : World) : (zeroValue 63).run Try.prog w = .ok (.int .u64 0) w := by kernel_rfl
/-- another row, of another kind, is written -/
theorem QL.over {P : Program} {k : TypeId} {α β : Type} {M : MapKd P k α Value} {d : Kd β} (hd : Flat d) {e e' : TypeId} {w w' : World} {b base n : Nat} {ok : Nat → Prop} {Q : α → List β} {L : List (α × Value)} (h : QL M d e w b base ok n Q L) {u : Value} (hty : ∀ j, u.ownBlock = some j → ∃ cells, w.heap[j]? = some (.cells cells e' (0, 0))) (he : e ≠ e') (hg : w.grownBy w' u.ownBlock) : QL M d e w' b base ok n Q L := by
  refine ⟨MapKd.own_kept h.own hg (fun e1 => ?_), fun p hp => ?_, h.none, h.apart⟩
  · obtain ⟨cells, hc⟩ := hty b e1.symm
    obtain ⟨es, c, hm⟩ := h.is
    rw [hc] at hm; cases hm
  · refine R_only hd (h.row p hp) (fun j hj => hg.block j (Kd.R_lt (h.row p hp) j hj) (fun e1 => ?_))
    obtain ⟨cells, hc⟩ := hty j e1.symm
    obtain ⟨cells2, hc2⟩ := Kd.R_typed (h.row p hp) j hj
    rw [hc] at hc2
    injection hc2 with hc2; injection hc2 with _ hc2
    exact he hc2.symm
theorem Mtr.over {k : Nat → Int} {bm be base : Nat} {w w' : World} {L : List (Sd × Value)} (h : Mtr k bm be base w L) {e' : TypeId} {u : Value} (hty : ∀ j, u.ownBlock = some j → ∃ cells, w.heap[j]? = some (.cells cells e' (0, 0))) (he : 109 ≠ e') (hm : 104 ≠ e') (hg : w.grownBy w' u.ownBlock) : Mtr k bm be base w' L :=
  ⟨blk_grown h.blk hg (fun e1 => by
    obtain ⟨cells, hc⟩ := hty bm e1.symm
    rw [h.blk] at hc
    injection hc with hc; injection hc with _ hc
    exact hm hc), h.map.over flatE hty he hg, h.sand⟩
theorem Mtr.map_ {k : Nat → Int} {bm be base : Nat} {w w' : World} {L : List (Sd × Value)} (h : Mtr k bm be base w L) {g : Nat} (hm : ∃ es c, w.heap[g]? = some (.map es c)) (hne : g ≠ be) (hg : w.grownBy w' (some g)) : Mtr k bm be base w' L :=
  ⟨blk_grown h.blk hg (fun e1 => by
    obtain ⟨es, c, hm⟩ := hm
    have := h.blk
    rw [Option.some.inj e1, hm] at this
    cases this), h.map.map hg hne hm, h.sand⟩
/-- all blocks of w are as they were, but b and ob -/
structure Fr2 (w w' : World) (b : Nat) (ob : Option Nat) : Prop where
  os : w'.os = w.os
  tape : w'.tape = w.tape
  output : w'.output = w.output
  size : w.heap.size ≤ w'.heap.size
  block : ∀ j, j < w.heap.size → j ≠ b → some j ≠ ob → w'.heap[j]? = w.heap[j]?
theorem Fr2.step {w wr w' : World} {b : Nat} {ob row : Option Nat} (h : Fr2 w wr b ob) (hg : wr.grownBy w' row) (hr : ∀ j, row = some j → j = b ∨ some j = ob ∨ w.heap.size ≤ j) : Fr2 w w' b ob :=
  ⟨hg.os.trans h.os, hg.tape.trans h.tape, hg.output.trans h.output, Nat.le_trans h.size hg.size, fun j hj h1 h2 => (hg.block j (Nat.lt_of_lt_of_le hj h.size) (fun e => by
    rcases hr j e.symm with c | c | c
    · exact h1 c
    · exact h2 c
    · omega)).trans (h.block j hj h1 h2)⟩
theorem Fr2.below {w wr w' : World} {b : Nat} {ob : Option Nat} (h : Fr2 w wr b ob) (hb : Below wr.heap.size wr w') : Fr2 w w' b ob := h.step (grown_below hb none) (fun j hj => by cases hj)
theorem Fr2.to {w0 w w' : World} {base b : Nat} {ob : Option Nat} (h : Fr2 w w' b ob) (h0 : Below base w0 w) (hbs : base ≤ w.heap.size) (hb : base ≤ b) (hob : ∀ j, ob = some j → base ≤ j) : Below base w0 w' :=
  ⟨h.os.trans h0.os, h.tape.trans h0.tape, h.output.trans h0.output, Nat.le_trans h0.size h.size, fun j hj => by
    exact (h.block j (by omega) (by omega) (fun e => by have := hob j e.symm; omega)).trans (h0.block j hj)⟩
/-- what the loops of spans keep -/
structure SBase (k : Nat → Int) (bm be base : Nat) (w : World) (ob : Option Nat) (O : List (Sd × Int)) (L : List (Sd × Value)) (wr : World) : Prop where
  out : MU.own wr w.heap.size O.length O
  mtr : Mtr k bm be base wr L
  fr : Fr2 w wr be ob
structure SList (w : World) (base : Nat) (ob : Option Nat) (lv : Value) (l : List Sd) (wr : World) : Prop where
  row : k4.R 22 wr base (fun _ => True) lv l
  blk : ∀ j, lv.ownBlock = some j → some j = ob ∨ w.heap.size ≤ j
section
variable {k : Nat → Int} {bm be base : Nat} {w wr w' : World} {ob : Option Nat} {O : List (Sd × Int)} {L : List (Sd × Value)} {lv : Value} {l : List Sd}
theorem SBase.step (h : SBase k bm be base w ob O L wr) (hb : Below wr.heap.size wr w') : SBase k bm be base w ob O L w' := ⟨MapKd.own_below h.out hb, h.mtr.step hb, h.fr.below hb⟩
theorem SList.step (h : SList w base ob lv l wr) (hb : Below wr.heap.size wr w') : SList w base ob lv l w' := ⟨Kd.R_below h.row hb, h.blk⟩
/-- the list is written -/
theorem SBase.list (h : SBase k bm be base w ob O L wr) (hl : SList w base ob lv l wr) (hg : wr.grownBy w' lv.ownBlock) : SBase k bm be base w ob O L w' := by
  refine ⟨MapKd.own_kept h.out hg (fun e => ?_), h.mtr.over (Kd.R_typed hl.row) (by decide) (by decide) hg, h.fr.step hg (fun j hj => .inr (hl.blk j hj))⟩
  obtain ⟨cells, hc⟩ := Kd.R_typed hl.row _ e.symm
  obtain ⟨es, c, hm⟩ := MapKd.own_is h.out
  rw [hc] at hm; cases hm
/-- the map of bits is written -/
theorem SBase.put (h : SBase k bm be base w ob O L wr) (hbe : be < w.heap.size) {O' : List (Sd × Int)} {n : Nat} (ho : MU.own w' w.heap.size n O') (hg : wr.grownBy w' (some w.heap.size)) : SBase k bm be base w ob O' L w' :=
  ⟨MapKd.own_tight ho, h.mtr.map_ (MapKd.own_is h.out) (by omega) hg, h.fr.step hg (fun j hj => .inr (.inr (by have := Option.some.inj hj; omega)))⟩
theorem SList.map_ (h : SList w base ob lv l wr) {g : Nat} (hm : ∃ es c, wr.heap[g]? = some (.map es c)) (hg : wr.grownBy w' (some g)) : SList w base ob lv l w' := ⟨R_map flat4 h.row hm hg, h.blk⟩
/-- the meter is asked -/
theorem SBase.ask (h : SBase k bm be base w ob O L wr) (hbe : be < w.heap.size) {L' : List (Sd × Value)} (hm : Mtr k bm be base w' L') (hg : wr.grownBy w' (some be)) : SBase k bm be base w ob O L' w' :=
  ⟨MapKd.own_kept h.out hg (fun e => by have := Option.some.inj e; omega), hm, h.fr.step hg (fun j hj => .inl (Option.some.inj hj).symm)⟩
end
theorem ranges_iter {P : Program} {k : TypeId} {α β : Type} {M : MapKd P k α β} {w : World} {b r n : Nat} {L done : List (α × β)} (h : M.ranges w b r n L done) : ∃ a c d e, w.heap[r]? = some (.mapIter a c d e) := by
  obtain ⟨D, left, cnt, todo, ⟨es, clock, since, seen, c0, hb, F, hs, hD, hr, rest⟩, h2⟩ := h
  exact ⟨_, _, _, _, hr⟩
theorem Mtr.iter {k : Nat → Int} {bm be base : Nat} {w w' : World} {L : List (Sd × Value)} (h : Mtr k bm be base w L) {r : Nat} (hr : ∃ a c d e, w.heap[r]? = some (.mapIter a c d e)) (hg : w.grownBy w' (some r)) : Mtr k bm be base w' L := by
  obtain ⟨a, c, d, e, hr⟩ := hr
  refine ⟨blk_grown h.blk hg (fun e1 => ?_), ⟨MapKd.own_kept h.map.own hg (fun e1 => ?_), fun p hp => R_only flatE (h.map.row p hp) (fun j hj => hg.block j (Kd.R_lt (h.map.row p hp) j hj) (fun e1 => ?_)), h.map.none, h.map.apart⟩, h.sand⟩
  · have := h.blk
    rw [Option.some.inj e1, hr] at this; cases this
  · obtain ⟨es, c, hm⟩ := h.map.is
    rw [Option.some.inj e1, hr] at hm; cases hm
  · obtain ⟨cells, hc⟩ := Kd.R_typed (h.map.row p hp) j hj
    rw [Option.some.inj e1, hr] at hc; cases hc
theorem bit_read {u s : Nat} (hu : u < 18446744073709551616) : (bits BinOp.and IntKind.u64 ((u : Int) / 2 ^ s) 1 == 1) = decide (u / 2 ^ s % 2 = 1) := by
  have e : ((u : Int) / 2 ^ s) = ((u / 2 ^ s : Nat) : Int) := by
    rw [Int.natCast_ediv, Int.natCast_pow]
    rfl
  have h := bits_and_u64_nat (u / 2 ^ s) 1 (Nat.lt_of_le_of_lt (Nat.div_le_self _ _) hu) (by decide)
  rw [e, show (1 : Int) = ((1 : Nat) : Int) from rfl, h, Nat.and_one_is_mod]
  by_cases c : u / 2 ^ s % 2 = 1
  · rw [c]; rfl
  · rw [decide_eq_false c]
    have : u / 2 ^ s % 2 = 0 := by omega
    rw [this]; rfl
theorem two_pow_lt {t : Nat} (h : t ≤ 60) : 2 ^ t * 2 ≤ 2305843009213693952 := by
  have : 2 ^ t ≤ 2 ^ 60 := Nat.pow_le_pow_right (by omega) h
  have e : (2 : Nat) ^ 60 = 1152921504606846976 := by decide
  omega
theorem bit_or {v t : Nat} (ht : t ≤ 60) (hv : v < 2 ^ t) : bits BinOp.or IntKind.u64 (v : Int) ((2 ^ t : Nat) : Int) = ((v + 2 ^ t : Nat) : Int) ∧ bits BinOp.or IntKind.u64 ((v + 2 ^ t : Nat) : Int) ((2 ^ t : Nat) : Int) = ((v + 2 ^ t : Nat) : Int) := by
  have h2 := two_pow_lt ht
  have e : v ||| 2 ^ t = v + 2 ^ t := by
    have h := Nat.two_pow_add_eq_or_of_lt hv 1
    rw [Nat.mul_one] at h
    rw [Nat.or_comm, ← h, Nat.add_comm]
  constructor
  · rw [bits_or_u64_nat v (2 ^ t) (by omega) (by omega), e]
  · rw [bits_or_u64_nat (v + 2 ^ t) (2 ^ t) (by omega) (by omega), ← e, Nat.or_assoc, Nat.or_self]
theorem look_own1 {P : Program} {k : TypeId} {α β : Type} {M : MapKd P k α β} {w : World} {b n : Nat} {L : List (α × β)} (h : M.own w b n L) {t e : TypeId} (ht : P.underlying t = some (.map k e)) {z : β} (hz : ∀ u : World, (zeroValue e).run P u = .ok (M.eV z) u) {key : α} (hg : M.good key) (w' : World) (hb : Below w.heap.size w w') :
    (Instr.lookup t (.map (some b)) (M.eK key) false).run P w' = .ok (M.eV ((getA L key).getD z)) w' := by
  obtain ⟨D, h1, h2⟩ := MapKd.own_below h hb
  obtain ⟨v, ps, hrun, hv⟩ := h1.lookup M.law ht (hz w') (show rdV (M.eV z) = some (.held (M.eV z), []) from rfl) (M.key key hg)
  have hv' : v = M.eV ((getA L key).getD z) := by
    simp only [rdV, Option.some.injEq, Prod.mk.injEq] at hv
    cases e1 : getA L key with
    | some y => rw [h2.at_some e1] at hv; simpa using hv.1
    | none => rw [Maps.atKey_of_not_has (h2.has_none hg e1)] at hv; simpa using hv.1
  rw [hv'] at hrun
  exact hrun
theorem take_any {α : Type} {l : List α} {f : α → Bool} {j : Nat} {e : α} (h : l[j]? = some e) : (l.take (j + 1)).any f = ((l.take j).any f || f e) := by
  rw [List.take_add_one, h, List.any_append]
  simp
theorem wrap_pow {t : Nat} (ht : t ≤ 60) : IntKind.u64.wrap (2 ^ t) = ((2 ^ t : Nat) : Int) := by
  have h2 := two_pow_lt ht
  have e : ((2 : Int) ^ t) = ((2 ^ t : Nat) : Int) := by rw [Int.natCast_pow]; rfl
  rw [e, IntKind.wrap_u64]
  omega
theorem SDone.setA {k : Nat → Int} {x : Sd} {O : List (Sd × Int)} (h : SDone k x O) {y : Sd} {v : Int} (hy : Sand k (fn4 y)) : SDone k x (setA O y v) := by
  have hk : ∀ z, keyIn O z → keyIn (Go.Proofs.Ytlhodfjdmafapaa.setA O y v) z := fun z ⟨u, hu⟩ => by
    have := setA_mem (x := y) (y := v) hu
    by_cases c : z = y
    · rw [if_pos c] at this; rw [c]; exact ⟨_, this⟩
    · rw [if_neg c] at this; exact ⟨_, this⟩
  have hk2 : ∀ z, keyIn (Go.Proofs.Ytlhodfjdmafapaa.setA O y v) z → keyIn O z := fun z ⟨u, hu⟩ => by
    rcases mem_setA hu with ⟨e1, w, hw⟩ | ⟨_, h2⟩
    · rw [(Prod.mk.inj e1).1]; exact ⟨w, hw⟩
    · exact ⟨u, h2⟩
  exact ⟨setA_nd h.nd y v, fun p hp => by
    rcases mem_setA hp with ⟨e1, _⟩ | ⟨_, h2⟩
    · rw [e1]; exact hy
    · exact h.sand p h2, hk _ h.start, fun z hz e he => hk _ (h.next z (hk2 z hz) e he)⟩
theorem bv_step {k : Nat → Int} {t : Nat} (h : 1 ≤ t) (y : Sd) : bvN k t y = bvN k (t - 1) y + if (edgesL k y).any (hitB (bvN k (t - 1)) t) = true then 2 ^ t else 0 := by
  cases t with
  | zero => omega
  | succ t => rfl
theorem put_none (a : Act) (v : Value) : a.put none v = a := rfl
def SpanPost (k : Nat → Int) (bm be base : Nat) (x : Sd) (T : Nat) (ob : Option Nat) (w : World) (e : Ending) (w' : World) : Prop :=
  ∃ (O : List (Sd × Int)) (L : List (Sd × Value)), e = .returned (.map (some w.heap.size)) ∧ MU.own w' w.heap.size O.length O ∧ SDone k x O ∧ (∀ p ∈ O, p.2 = (bvN k T p.1 : Int)) ∧ Fr2 w w' be ob
set_option maxRecDepth 100000 in
set_option maxHeartbeats 4000000 in
theorem spans_any (k : Nat → Int) (bm be base : Nat) (x : Sd) (T : Nat) (hT : T ≤ 60) (lv : Value) (L : List (Sd × Value)) (hk : isKitB k = true) (hx : Sand k (fn4 x)) (w0 w : World) (hm : Mtr k bm be base w L) (hw0 : Below base w0 w) (hbase : base ≤ w.heap.size) (hl : k4.R 22 w base (fun _ => True) lv [x]) (hbe : base ≤ be) :
    Calls Try.prog 56 #[.pointer (some ⟨bm, 0, none⟩), lv, .int .i64 T] w (SpanPost k bm be base x T lv.ownBlock w) := by
  have HM := Aside0.mk hm
  have HX := Aside0.mk hx
  have HKB := Aside0.mk hk
  have HLV := Aside0.mk hl
  have HBS := Aside0.mk hbase
  have HBE := Aside0.mk (show be < w.heap.size from hm.map.lt)
  obtain ⟨A0, c0, rfl⟩ := Kd.R_slice hl
  clear hm hx hk hl hw0 hbase hbe
  have hmm := @run_makeMap Try.prog
  go_enter Try.func56, Try.ntmps56
  go_wp2_with fail
  have BA : Below w.heap.size w (w.alloc (.map #[] 0)) := below_alloc (Below.refl _ _) _
  have HS0 := Aside0.mk (show SBase k bm be base w (Value.slice A0 [x].length c0).ownBlock [] L (w.alloc (.map #[] 0)) from ⟨MapKd.own_made MU w, HM.out.step BA, (show Fr2 w w be _ from ⟨rfl, rfl, rfl, Nat.le_refl _, fun _ _ _ _ => rfl⟩).below BA⟩)
  have HL0 := Aside0.mk (show SList w base (Value.slice A0 [x].length c0).ownBlock (Value.slice A0 [x].length c0) [x] (w.alloc (.map #[] 0)) from ⟨Kd.R_below HLV.out BA, fun j hj => .inl hj.symm⟩)
  obtain ⟨ob, hob⟩ : ∃ ob, ob = (Value.slice A0 [x].length c0).ownBlock := ⟨_, rfl⟩
  rw [← hob] at HS0 HL0
  have HOB := Aside0.mk hob
  clear BA hob
  go_loopw [1, 8] (fun v1 v8 wr => ∃ (i : Nat) (lv : Value) (l : List Sd) (O : List (Sd × Int)) (L : List (Sd × Value)), v1 = lv ∧ v8 = .int .i64 i ∧ Aside0 (SInv k x O l i x []) ∧ Aside0 (i ≤ l.length) ∧ Aside0 (SBase k bm be base w ob O L wr) ∧ Aside0 (SList w base ob lv l wr)) (fun _ v8 _ => 20000000 - (intOf v8).toNat)
  case atStart => exact ⟨0, _, [x], [], L, rfl, rfl, ⟨SInv.begin HX.out⟩, ⟨Nat.zero_le _⟩, HS0, HL0⟩
  case round =>
    clear HS0 HL0
    obtain ⟨i, lv, l, O, L, rfl, rfl, HI, HIL, HS, HL⟩ := hrel
    obtain ⟨wz, rfl⟩ : ∃ wz : World, wz = wr := ⟨_, rfl⟩
    have hlen := few31s (kit_bounds HKB.out) HI.out.nd (fun p hp => (HI.out.one p hp).2)
    have hll : l.length ≤ 15000000 := by
      have := HI.out.len
      simp only [List.length_nil] at this
      omega
    have hil := HIL.out
    obtain ⟨A, c, rfl⟩ := Kd.R_slice HL.out.row
    by_cases ci : i < l.length
    · have ci0 : decide (i < l.length) = true := decide_eq_true ci
      have ci1 : decide ((i : Int) < (l.length : Int)) = true := decide_eq_true (by omega)
      obtain ⟨⟨s0, s1, s2, s3⟩, hs⟩ : ∃ s, l[i]? = some s := ⟨_, List.getElem?_eq_getElem ci⟩
      obtain ⟨ad, rfl, h0, h1, h2, h3⟩ := at_k4 (Kd.R_reads' HL.out.row).2.2 i _ hs
      have HSS := Aside0.mk hs
      have HSD := Aside0.mk (HI.out.list _ (List.mem_of_getElem? hs))
      have HGS := Aside0.mk (sand_good HSD.out)
      have p0 : (0 : Int) ≤ (i : Int) := by omega
      have p1 : (i : Int) < (l.length : Int) := by omega
      clear hs
      cases hg : getA O (s0, s1, s2, s3) with
      | some t0 =>
        have HG := Aside0.mk hg
        clear hg
        go_wp2_with (first | (at_lookup; refine wpList_lookup_ok_some _ MU rfl _ _ 64 rfl 63 Try.underlying64 0 (zeroU _) w.heap.size O.length O rfl (MapKd.own_below HS.out.out (by repeat (first | exact Below.refl _ _ | apply below_alloc | apply pw_below_drewN))) (s0, s1, s2, s3) rfl HGS.out t0 HG.out (.int .u64 t0) rfl ?_) | fail)
        exact ⟨⟨i + 1, _, l, O, L, rfl, by go_num, ⟨HI.out.skip HSS.out ⟨t0, getA_some HG.out⟩⟩, ⟨by omega⟩, HS, HL⟩, by simp only [intOf]; omega⟩
      | none =>
        have HG := Aside0.mk hg
        clear hg
        have HML := Aside0.mk (show O.length < maxLen from by unfold maxLen; omega)
        go_wp2_with (first | (at_lookup; refine wpList_lookup_ok_none _ MU rfl _ _ 64 rfl 63 Try.underlying64 0 (zeroU _) w.heap.size O.length O rfl (MapKd.own_below HS.out.out (by repeat (first | exact Below.refl _ _ | apply below_alloc | apply pw_below_drewN))) (s0, s1, s2, s3) rfl HGS.out HG.out (.int .u64 0) rfl ?_) | (at_mapUpdate; refine wpList_update_om _ MU rfl _ _ _ 64 rfl 63 Try.underlying64 w.heap.size O.length O rfl HS.out.out HML.out (s0, s1, s2, s3) 1 rfl rfl HGS.out ?_; intro w5 hown5 hgrow5 hsz5; have HS5 := Aside0.mk (HS.out.put HBE.out hown5 hgrow5); have HL5 := Aside0.mk (HL.out.map_ (MapKd.own_is HS.out.out) hgrow5); obtain ⟨ad', e', h0', h1', h2', h3'⟩ := at_k4 (Kd.R_reads' HL5.out.row).2.2 i _ HSS.out; obtain rfl := Option.some.inj e') | fail)
        have HTK := Aside0.mk (HI.out.take HSS.out HG.out)
        clear hown5 hgrow5 hsz5 HS HL HI
        refine (from_any k bm be base s0 s1 s2 s3 L HKB.out HSD.out w5 HS5.out.mtr (Nat.le_trans HBS.out HS5.out.fr.size)).mono ?_
        rintro e w6 ⟨v, L', rfl, hm6, hv6, hs6, hg6⟩
        have HS6 := Aside0.mk (HS5.out.ask HBE.out hm6 hg6)
        have HL6 := Aside0.mk (HL5.out.map_ HS5.out.mtr.map.is hg6)
        have HQE := Aside0.mk (show qE k L' (s0, s1, s2, s3) = edgesL k (s0, s1, s2, s3) from qE_some hs6)
        have hR6 := hm6.map.at hv6
        rw [HQE.out] at hR6
        obtain ⟨Ae, ce, rfl⟩ := Kd.R_slice hR6
        have HVE := Aside0.mk hv6
        have hel := edges_len k (s0, s1, s2, s3)
        obtain ⟨O1, hO1⟩ : ∃ O1, O1 = putA O (s0, s1, s2, s3) (1 : Int) := ⟨_, rfl⟩
        rw [← hO1] at HS6 HTK
        clear hm6 hv6 hs6 hg6 hR6 HS5 HL5 h0 h1 h2 h3 h0' h1' h2' h3' p1 ci0 ci1 hO1
        go_wp2_with fail
        go_loopw [1, 49] (fun v1 v49 wr => ∃ (j : Nat) (lv : Value) (l : List Sd), v1 = lv ∧ v49 = .int .i64 j ∧ Aside0 (SInv k x O1 l (i + 1) (s0, s1, s2, s3) ((edgesL k (s0, s1, s2, s3)).drop j)) ∧ Aside0 (i + 1 ≤ l.length) ∧ Aside0 (j ≤ (edgesL k (s0, s1, s2, s3)).length) ∧ Aside0 (SBase k bm be base w ob O1 L' wr) ∧ Aside0 (SList w base ob lv l wr)) (fun _ v49 _ => 17 - (intOf v49).toNat)
        case atStart => exact ⟨0, _, l, rfl, rfl, ⟨by rw [List.drop_zero]; exact HTK.out⟩, ⟨by omega⟩, ⟨Nat.zero_le _⟩, HS6, HL6⟩
        case round =>
          have hi15 : i ≤ 15000000 := by omega
          clear HS6 HL6 HTK hlen hll hil ci HSS HIL HG HML
          obtain ⟨j, lv, l, rfl, rfl, HI, HIL, HJ, HS, HL⟩ := hrel
          obtain ⟨wy, rfl⟩ : ∃ wy : World, wy = wr := ⟨_, rfl⟩
          have hlen := few31s (kit_bounds HKB.out) HI.out.nd (fun p hp => (HI.out.one p hp).2)
          have hll : l.length ≤ 15000000 := by
            have := HI.out.len
            omega
          have hjl := HJ.out
          obtain ⟨A, c, rfl⟩ := Kd.R_slice HL.out.row
          by_cases cj : j < (edgesL k (s0, s1, s2, s3)).length
          · have cj0 : decide (j < (edgesL k (s0, s1, s2, s3)).length) = true := decide_eq_true cj
            have cj1 : decide ((j : Int) < ((edgesL k (s0, s1, s2, s3)).length : Int)) = true := decide_eq_true (by omega)
            have hR := HS.out.mtr.map.at HVE.out
            rw [HQE.out] at hR
            obtain ⟨⟨⟨t0, t1, t2, t3⟩, d⟩, he⟩ : ∃ e, (edgesL k (s0, s1, s2, s3))[j]? = some e := ⟨_, List.getElem?_eq_getElem cj⟩
            obtain ⟨ae, rfl, h0, h1, h2, h3, h4⟩ := at_kE (Kd.R_reads' hR).2.2 j _ he
            have HEM := Aside0.mk (edge_ok HSD.out (List.mem_of_getElem? he))
            have HGT := Aside0.mk (sand_good HEM.out.1)
            have hdrop : (edgesL k (s0, s1, s2, s3)).drop j = ((t0, t1, t2, t3), d) :: (edgesL k (s0, s1, s2, s3)).drop (j + 1) := by
              rw [List.drop_eq_getElem_cons cj]
              congr 1
              rw [List.getElem?_eq_getElem cj] at he
              exact Option.some.inj he
            have HI' := Aside0.mk (hdrop ▸ HI.out : SInv k x O1 l (i + 1) (s0, s1, s2, s3) (((t0, t1, t2, t3), d) :: (edgesL k (s0, s1, s2, s3)).drop (j + 1)))
            have p0 : (0 : Int) ≤ (j : Int) := by omega
            have p1 : (j : Int) < ((edgesL k (s0, s1, s2, s3)).length : Int) := by omega
            have BX : Below wy.heap.size wy (wy.alloc (.cells #[.int .i64 t0, .int .i64 t1, .int .i64 t2, .int .i64 t3, .int .i64 d] 109 (0, 0))) := below_alloc (Below.refl _ _) _
            have HSB := Aside0.mk (HS.out.step BX)
            have HLB := Aside0.mk (HL.out.step BX)
            clear hR he hdrop HI BX
            cases hg : getA O1 (t0, t1, t2, t3) with
            | some u0 =>
              have HG := Aside0.mk hg
              clear hg
              go_wp2_with (first | (at_lookup; refine wpList_lookup_ok_some _ MU rfl _ _ 64 rfl 63 Try.underlying64 0 (zeroU _) w.heap.size O1.length O1 rfl (MapKd.own_below HS.out.out (by repeat (first | exact Below.refl _ _ | apply below_alloc | apply pw_below_drewN))) (t0, t1, t2, t3) rfl HGT.out u0 HG.out (.int .u64 u0) rfl ?_) | fail)
              exact ⟨⟨j + 1, _, l, rfl, by go_num, ⟨HI'.out.drop ⟨u0, getA_some HG.out⟩⟩, HIL, ⟨by omega⟩, HSB, HLB⟩, by simp only [intOf]; omega⟩
            | none =>
              have HG := Aside0.mk hg
              clear hg
              have HPU := Aside0.mk (HI'.out.push HIL.out)
              have HLQ := Aside0.mk (show (l.length + 1) * 32 ≤ 140737488355328 from by omega)
              have HSZ := Aside0.mk (show base ≤ (wy.alloc (.cells #[.int .i64 t0, .int .i64 t1, .int .i64 t2, .int .i64 t3, .int .i64 d] 109 (0, 0))).heap.size from Nat.le_trans HBS.out HSB.out.fr.size)
              go_wp2_with (first | (at_lookup; refine wpList_lookup_ok_none _ MU rfl _ _ 64 rfl 63 Try.underlying64 0 (zeroU _) w.heap.size O1.length O1 rfl (MapKd.own_below HS.out.out (by repeat (first | exact Below.refl _ _ | apply below_alloc | apply pw_below_drewN))) (t0, t1, t2, t3) rfl HGT.out HG.out (.int .u64 0) rfl ?_) | (at_builtin; refine Kd.R_append k4 (w0 := wy.alloc (.cells #[.int .i64 t0, .int .i64 t1, .int .i64 t2, .int .i64 t3, .int .i64 d] 109 (0, 0))) base rfl (.tmp 62) (.tmp 65) 43 22 (.agg #[(.int .i64 0), (.int .i64 0), (.int .i64 0), (.int .i64 0)]) 32 rfl Try.underlying43 info4q rfl (by decide) (by decide) _ l (t0, t1, t2, t3) [.int .i64 t0, .int .i64 t1, .int .i64 t2, .int .i64 t3] (fun _ => True) (fun _ => False) rfl (by first | (go_simp; done) | (go_simp; rfl)) (k4_mkM _ _ _ _) (fun _ h => h.elim) (fun _ _ => trivial) HLB.out.row (Below.refl _ _) HSZ.out HLQ.out ?_; intro v4 w4 hO4 hB4 hg4 hat4) | fail)
              have HS4 := Aside0.mk (HSB.out.list HLB.out hg4)
              refine ⟨⟨j + 1, v4, l ++ [(t0, t1, t2, t3)], rfl, by go_num, HPU, ⟨by rw [List.length_append]; have := HIL.out; omega⟩, ⟨by omega⟩, HS4, ⟨hO4, fun q hq => ?_⟩⟩, by simp only [intOf]; omega⟩
              rcases hat4 with hat | ⟨b, hb, hle⟩
              · exact HLB.out.blk q (hat ▸ hq)
              · rw [hb] at hq
                have h1 := Option.some.inj hq
                have h2 := HSB.out.fr.size
                exact .inr (by omega)
          · have cj0 : decide (j < (edgesL k (s0, s1, s2, s3)).length) = false := decide_eq_false cj
            have cj1 : decide ((j : Int) < ((edgesL k (s0, s1, s2, s3)).length : Int)) = false := decide_eq_false (by omega)
            have HE0 := Aside0.mk (show (edgesL k (s0, s1, s2, s3)).drop j = [] from List.drop_eq_nil_of_le (by omega))
            go_wp2_with fail
            exact ⟨⟨i + 1, _, l, O1, L', rfl, by go_num, ⟨(show SInv k x O1 l (i + 1) (s0, s1, s2, s3) [] from HE0.out ▸ HI.out).any x⟩, HIL, HS, HL⟩, by simp only [intOf]; have := HIL.out; omega⟩
    · have ci0 : decide (i < l.length) = false := decide_eq_false ci
      have ci1 : decide ((i : Int) < (l.length : Int)) = false := decide_eq_false (by omega)
      have HD := Aside0.mk (HI.out.finish (by omega))
      have HV1 := Aside0.mk (show ∀ p ∈ O, p.2 = (bvN k (1 - 1) p.1 : Int) from fun p hp => by rw [(HI.out.one p hp).1]; rfl)
      clear HI HIL HL hlen hll hil ci
      go_wp2_with fail
      go_loopw [15] (fun v15 wr => ∃ (t1 : Nat) (O : List (Sd × Int)) (L : List (Sd × Value)), v15 = .int .i64 (t1 : Nat) ∧ Aside0 (1 ≤ t1 ∧ t1 ≤ T + 1) ∧ Aside0 (SDone k x O) ∧ Aside0 (∀ p ∈ O, p.2 = (bvN k (t1 - 1) p.1 : Int)) ∧ Aside0 (SBase k bm be base w ob O L wr)) (fun v15 _ => 62 - (intOf v15).toNat)
      case atStart => exact ⟨1, O, L, rfl, ⟨by omega⟩, HD, HV1, HS⟩
      case round =>
        clear HS HD HV1 ci0 ci1
        obtain ⟨t1, O, L, rfl, HT1, HD, HV, HS⟩ := hrel
        obtain ⟨wz, rfl⟩ : ∃ wz : World, wz = wr := ⟨_, rfl⟩
        have ht1 := HT1.out
        by_cases ct : t1 ≤ T
        · have ct0 : decide (t1 ≤ T) = true := decide_eq_true ct
          have ct1 : decide ((t1 : Int) ≤ (T : Int)) = true := decide_eq_true (by omega)
          go_wp2_with (first | (at_range; refine wpList_range_om _ MU rfl _ 64 rfl 63 Try.underlying64 w.heap.size O.length O rfl HS.out.out ?_; intro w2 hrg2 hgrow2 hsz2) | fail)
          have BX : Below wz.heap.size wz w2 := (Below.refl _ _).grown hgrow2 (by omega) (fun q hq => by cases hq)
          have HM2 := Aside0.mk (HS.out.mtr.step BX)
          have HF2 := Aside0.mk (HS.out.fr.below BX)
          have HR2 := Aside0.mk hrg2
          have HZ := Aside0.mk (show w.heap.size < wz.heap.size from MapKd.own_lt HS.out.out)
          clear hrg2 hgrow2 hsz2 BX
          go_frame
          go_loopw [75] (fun v75 wr => ∃ (done O' : List (Sd × Int)) (L' : List (Sd × Value)), Aside0 (MU.ranges wr w.heap.size wz.heap.size O'.length O' done) ∧ Aside0 (SDone k x O') ∧ Aside0 (∀ p ∈ O', (p ∈ done ∧ p.2 = (bvN k t1 p.1 : Int)) ∨ (p ∉ done ∧ p.2 = (bvN k (t1 - 1) p.1 : Int))) ∧ Aside0 (Mtr k bm be base wr L') ∧ Aside0 (Fr2 w wr be ob) ∧ Aside0 (wz.heap.size < wr.heap.size)) (fun _ wr => wr.rangeLeft w.heap.size wz.heap.size)
          case atStart => exact ⟨[], O, L, HR2, HD, ⟨fun p hp => .inr ⟨List.not_mem_nil, HV.out p hp⟩⟩, HM2, HF2, ⟨MapKd.ranges_lt HR2.out⟩⟩
          case round =>
            clear HR2 HD HV HM2 HF2 HS
            obtain ⟨done, O', L', HR, HD, HV, HM, HF, HZZ⟩ := hrel
            obtain ⟨wy, rfl⟩ : ∃ wy : World, wy = wr := ⟨_, rfl⟩
            go_wp2_with (first | (at_next; refine wpList_next_om _ MU rfl _ rfl w.heap.size wz.heap.size O'.length O' done rfl HR.out ?_ ?_) | fail)
            · intro hperm
              have HOW := Aside0.mk (MapKd.own_tight (MapKd.ranges_own HR.out))
              go_wp2_with fail
              exact ⟨⟨t1 + 1, O', L', by go_num, ⟨by omega⟩, HD, ⟨fun p hp => by
                rcases HV.out p hp with ⟨_, h⟩ | ⟨h, _⟩
                · exact h
                · exact absurd (hperm.mem_iff.2 hp) h⟩, ⟨HOW.out, HM.out, HF.out⟩⟩, by simp only [intOf]; omega⟩
            · intro y0 y1 y2 y3 v w3 hxy hnd hrg3 hlt3 hgrow3 hsz3 hen3
              have hen4 : (Instr.entry (.pointer (some ⟨wz.heap.size, 0, none⟩))).run Try.prog w3 = .ok (.tuple #[.agg #[.int .i64 y0, .int .i64 y1, .int .i64 y2, .int .i64 y3], .int .u64 v]) w3 := hen3
              have hEK : MU.eK (y0, y1, y2, y3) = .agg #[.int .i64 y0, .int .i64 y1, .int .i64 y2, .int .i64 y3] := rfl
              have hEV : MU.eV v = .int .u64 v := rfl
              simp only [hEK, hEV]
              clear hEK hEV
              obtain rfl : v = (bvN k (t1 - 1) (y0, y1, y2, y3) : Int) := by
                rcases HV.out _ hxy with ⟨h, _⟩ | ⟨_, h⟩
                · exact absurd h hnd
                · exact h
              have HSY := Aside0.mk (HD.out.sand _ hxy)
              have HXY := Aside0.mk hxy
              have HND := Aside0.mk hnd
              have HR3 := Aside0.mk hrg3
              have HLT := Aside0.mk hlt3
              have HM3 := Aside0.mk (HM.out.iter (ranges_iter HR.out) hgrow3)
              have HF3 := Aside0.mk (HF.out.step hgrow3 (fun q hq => .inr (.inr (by have := Option.some.inj hq; have := HZ.out; omega))))
              have HZ3 := Aside0.mk (show wz.heap.size < w3.heap.size from by have := HZZ.out; omega)
              clear hxy hnd hrg3 hlt3 hgrow3 hsz3 hen3 HM HF HZZ HR
              obtain ⟨vN, hvN⟩ : ∃ vN, vN = bvN k (t1 - 1) (y0, y1, y2, y3) := ⟨_, rfl⟩
              rw [← hvN] at hen4 HXY HND HR3 ⊢
              have HVN := Aside0.mk hvN
              clear hvN
              go_wp2_with fail
              have BX : Below w3.heap.size w3 (w3.alloc (.cells #[.int .i64 y0, .int .i64 y1, .int .i64 y2, .int .i64 y3] 22 (0, 0))) := below_alloc (Below.refl _ _) _
              refine (from_any k bm be base y0 y1 y2 y3 L' HKB.out HSY.out (w3.alloc (.cells #[.int .i64 y0, .int .i64 y1, .int .i64 y2, .int .i64 y3] 22 (0, 0))) (HM3.out.step BX) (Nat.le_trans HBS.out (HF3.out.below BX).size)).mono ?_
              rintro e w5 ⟨ve, L5, rfl, hm5, hv5, hs5, hg5⟩
              have HM5 := Aside0.mk hm5
              have HV5 := Aside0.mk hv5
              have HQE := Aside0.mk (show qE k L5 (y0, y1, y2, y3) = edgesL k (y0, y1, y2, y3) from qE_some hs5)
              have HF5 := Aside0.mk ((HF3.out.below BX).step hg5 (fun j hj => .inl (Option.some.inj hj).symm))
              have HR5 := Aside0.mk (MapKd.ranges_kept (MapKd.ranges_below HR3.out BX) hg5 (fun e => by have := Option.some.inj e; have := HBE.out; omega) (fun e => by have := Option.some.inj e; have := HBE.out; have := HZ.out; omega))
              have HLT5 := Aside0.mk (show w5.rangeLeft w.heap.size wz.heap.size < wy.rangeLeft w.heap.size wz.heap.size from by
                have hb5 := hg5.block w.heap.size (Nat.lt_of_lt_of_le (MapKd.own_lt (MapKd.ranges_own HR3.out)) BX.size) (fun e => by have := Option.some.inj e; have := HBE.out; omega)
                have hr5 := hg5.block wz.heap.size (Nat.lt_of_lt_of_le (MapKd.ranges_lt HR3.out) BX.size) (fun e => by have := Option.some.inj e; have := HBE.out; have := HZ.out; omega)
                rw [MapKd.ranges_left HR3.out (hb5.trans (BX.block _ (MapKd.own_lt (MapKd.ranges_own HR3.out)))) (hr5.trans (BX.block _ (MapKd.ranges_lt HR3.out)))]
                exact HLT.out)
              have HY5 := Aside0.mk (show w5.heap[w3.heap.size]? = some (.cells #[.int .i64 y0, .int .i64 y1, .int .i64 y2, .int .i64 y3] 22 (0, 0)) from blk_grown (heap_alloc_new w3 (.cells #[.int .i64 y0, .int .i64 y1, .int .i64 y2, .int .i64 y3] 22 (0, 0))) hg5 (fun e => by have := Option.some.inj e; have := HBE.out; have := HZ.out; have := HZ3.out; omega))
              have hR5 := hm5.map.at hv5
              rw [HQE.out] at hR5
              obtain ⟨Ae, ce, rfl⟩ := Kd.R_slice hR5
              have hel := edges_len k (y0, y1, y2, y3)
              have hv60 : vN < 2 ^ t1 := by
                have := bv_lt k (t1 - 1) (y0, y1, y2, y3)
                rw [← HVN.out, show t1 - 1 + 1 = t1 by omega] at this
                exact this
              clear hm5 hv5 hs5 hg5 hR5 BX HR3 HM3 HF3 HLT
              go_wp2_with fail
              go_loopw [17, 84] (fun v17 v84 wr => ∃ (j cu : Nat), v17 = .int .u64 (cu : Int) ∧ v84 = .int .i64 j ∧ Aside0 (cu = vN + (if ((edgesL k (y0, y1, y2, y3)).take j).any (hitB (bvN k (t1 - 1)) t1) = true then 2 ^ t1 else 0)) ∧ Aside0 (j ≤ (edgesL k (y0, y1, y2, y3)).length) ∧ Aside0 (Below w5.heap.size w5 wr)) (fun _ v84 _ => 17 - (intOf v84).toNat)
              case atStart => exact ⟨0, vN, rfl, rfl, ⟨by simp⟩, ⟨Nat.zero_le _⟩, ⟨Below.refl _ _⟩⟩
              case round =>
                obtain ⟨j, cu, rfl, rfl, HCU, HJ, HBr⟩ := hrel
                obtain ⟨wx, rfl⟩ : ∃ wx : World, wx = wr := ⟨_, rfl⟩
                have hjl := HJ.out
                by_cases cj : j < (edgesL k (y0, y1, y2, y3)).length
                · have cj0 : decide (j < (edgesL k (y0, y1, y2, y3)).length) = true := decide_eq_true cj
                  have cj1 : decide ((j : Int) < ((edgesL k (y0, y1, y2, y3)).length : Int)) = true := decide_eq_true (by omega)
                  have hR := (HM5.out.step HBr.out).map.at HV5.out
                  rw [HQE.out] at hR
                  obtain ⟨⟨⟨e0, e1, e2, e3⟩, d⟩, he⟩ : ∃ e, (edgesL k (y0, y1, y2, y3))[j]? = some e := ⟨_, List.getElem?_eq_getElem cj⟩
                  obtain ⟨ae, rfl, h0, h1, h2, h3, h4⟩ := at_kE (Kd.R_reads' hR).2.2 j _ he
                  have HEM := Aside0.mk (edge_ok HSY.out (List.mem_of_getElem? he))
                  have HGT := Aside0.mk (sand_good HEM.out.1)
                  have HEE := Aside0.mk he
                  have p0 : (0 : Int) ≤ (j : Int) := by omega
                  have p1 : (j : Int) < ((edgesL k (y0, y1, y2, y3)).length : Int) := by omega
                  have hd0 : 0 < d := HEM.out.2.1
                  have hd1 : d ≤ 30 := HEM.out.2.2
                  obtain ⟨u, hu⟩ := HD.out.next _ ⟨_, HXY.out⟩ _ (List.mem_of_getElem? he)
                  have HU := Aside0.mk hu
                  have HOX := Aside0.mk (MapKd.own_below (MapKd.ranges_own HR5.out) HBr.out)
                  clear hR he hu
                  by_cases cd : d ≤ (t1 : Int)
                  · have cd0 : decide (d ≤ (t1 : Int)) = true := decide_eq_true cd
                    obtain ⟨uN, rfl, huN, hub⟩ : ∃ uN : Nat, u = (uN : Int) ∧ uN < 18446744073709551616 ∧ uN / 2 ^ (t1 - d.toNat) % 2 = bvN k (t1 - 1) (e0, e1, e2, e3) / 2 ^ (t1 - d.toNat) % 2 := by
                      have hp := two_pow_lt (show t1 ≤ 60 by omega)
                      rcases HV.out _ HU.out with ⟨_, h⟩ | ⟨_, h⟩
                      · refine ⟨_, h, ?_, ?_⟩
                        · have := bv_lt k t1 (e0, e1, e2, e3)
                          rw [Nat.pow_succ] at this
                          show bvN k t1 (e0, e1, e2, e3) < _
                          omega
                        · show bvN k t1 (e0, e1, e2, e3) / 2 ^ (t1 - d.toNat) % 2 = _
                          have := bv_bit k (t1 - 1) (e0, e1, e2, e3) (u := t1 - d.toNat) (by omega)
                          rw [show t1 - 1 + 1 = t1 by omega] at this
                          exact this
                      · refine ⟨_, h, ?_, rfl⟩
                        have := bv_lt k (t1 - 1) (e0, e1, e2, e3)
                        rw [show t1 - 1 + 1 = t1 by omega] at this
                        show bvN k (t1 - 1) (e0, e1, e2, e3) < _
                        omega
                    have HGU := Aside0.mk (getA_mem HD.out.nd HU.out)
                    have hlk : ∀ n : Nat, (Instr.lookup 64 (.map (some w.heap.size)) (.agg #[.int .i64 e0, .int .i64 e1, .int .i64 e2, .int .i64 e3]) false).run Try.prog ((wx.alloc (.cells #[.int .i64 e0, .int .i64 e1, .int .i64 e2, .int .i64 e3, .int .i64 d] 109 (0, 0))).drewN n) = .ok (.int .u64 (uN : Int)) ((wx.alloc (.cells #[.int .i64 e0, .int .i64 e1, .int .i64 e2, .int .i64 e3, .int .i64 d] 109 (0, 0))).drewN n) := fun n => by
                      have := look_own1 (M := MU) HOX.out Try.underlying64 zeroU HGT.out ((wx.alloc (.cells #[.int .i64 e0, .int .i64 e1, .int .i64 e2, .int .i64 e3, .int .i64 d] 109 (0, 0))).drewN n) (pw_below_drewN (below_alloc (Below.refl _ _) _) n)
                      rw [HGU.out] at this
                      exact this
                    have q0 : 0 ≤ (t1 : Int) - d := by omega
                    have q1 : (t1 : Int) - d ≤ 60 := by omega
                    have hsh : ((t1 : Int) - d).toNat = t1 - d.toNat := by omega
                    have hbit : (bits BinOp.and IntKind.u64 ((uN : Int) / 2 ^ ((t1 : Int) - d).toNat) 1 == 1) = hitB (bvN k (t1 - 1)) t1 ((e0, e1, e2, e3), d) := by
                      rw [hsh, bit_read huN, hub]
                      unfold hitB
                      rw [decide_eq_true (show (((e0, e1, e2, e3), d) : Edge).2 ≤ (t1 : Int) from cd), Bool.true_and]
                    cases hh : hitB (bvN k (t1 - 1)) t1 ((e0, e1, e2, e3), d) with
                    | false =>
                      rw [hh] at hbit
                      have HH := Aside0.mk hh
                      clear hh huN hub hsh
                      go_wp2_with fail
                      go_quiet (fail)
                      go_wp2_with fail
                      exact ⟨⟨j + 1, cu, rfl, by go_num, ⟨by rw [take_any HEE.out, HH.out, Bool.or_false]; exact HCU.out⟩, ⟨by omega⟩, ⟨below_chain HBr.out (pw_below_drewN (below_alloc (Below.refl _ _) _) _)⟩⟩, by simp only [intOf]; omega⟩
                    | true =>
                      rw [hh] at hbit
                      have HH := Aside0.mk hh
                      clear hh huN hub hsh
                      have HOR := Aside0.mk (show bits BinOp.or IntKind.u64 (cu : Int) (IntKind.u64.wrap (2 ^ t1)) = ((vN + 2 ^ t1 : Nat) : Int) from by
                        have h := bit_or (show t1 ≤ 60 by omega) hv60
                        rw [wrap_pow (show t1 ≤ 60 by omega), HCU.out]
                        split
                        · exact h.2
                        · rw [Nat.add_zero]; exact h.1)
                      go_wp2_with fail
                      go_quiet (fail)
                      go_wp2_with fail
                      rw [HOR.out]
                      exact ⟨⟨j + 1, _, rfl, by go_num, ⟨by rw [take_any HEE.out, HH.out, Bool.or_true, if_pos rfl]⟩, ⟨by omega⟩, ⟨below_chain HBr.out (pw_below_drewN (below_alloc (Below.refl _ _) _) _)⟩⟩, by simp only [intOf]; omega⟩
                  · have cd0 : decide (d ≤ (t1 : Int)) = false := decide_eq_false cd
                    have HH := Aside0.mk (show hitB (bvN k (t1 - 1)) t1 ((e0, e1, e2, e3), d) = false from by
                      unfold hitB
                      rw [decide_eq_false (show ¬ (((e0, e1, e2, e3), d) : Edge).2 ≤ (t1 : Int) from cd), Bool.false_and])
                    go_wp2_with fail
                    go_quiet (fail)
                    go_wp2_with fail
                    exact ⟨⟨j + 1, cu, rfl, by go_num, ⟨by rw [take_any HEE.out, HH.out, Bool.or_false]; exact HCU.out⟩, ⟨by omega⟩, ⟨below_chain HBr.out (pw_below_drewN (below_alloc (Below.refl _ _) _) _)⟩⟩, by simp only [intOf]; omega⟩
                · have cj0 : decide (j < (edgesL k (y0, y1, y2, y3)).length) = false := decide_eq_false cj
                  have cj1 : decide ((j : Int) < ((edgesL k (y0, y1, y2, y3)).length : Int)) = false := decide_eq_false (by omega)
                  have HCV := Aside0.mk (show (cu : Int) = (bvN k t1 (y0, y1, y2, y3) : Int) from by
                    rw [HCU.out, List.take_of_length_le (by omega), HVN.out]
                    rw [bv_step ht1.1 (y0, y1, y2, y3)])
                  have HRX := Aside0.mk (MapKd.ranges_below HR5.out HBr.out)
                  have HYX := Aside0.mk (blk_below HY5.out HBr.out)
                  have q0 : wx.cell? ⟨w3.heap.size, 0, none⟩ = some (.int .i64 y0) := (blk_cell HYX.out 0).trans rfl
                  have q1 : wx.cell? ⟨w3.heap.size, 1, none⟩ = some (.int .i64 y1) := (blk_cell HYX.out 1).trans rfl
                  have q2 : wx.cell? ⟨w3.heap.size, 2, none⟩ = some (.int .i64 y2) := (blk_cell HYX.out 2).trans rfl
                  have q3 : wx.cell? ⟨w3.heap.size, 3, none⟩ = some (.int .i64 y3) := (blk_cell HYX.out 3).trans rfl
                  have HLX := Aside0.mk (show wx.rangeLeft w.heap.size wz.heap.size < wy.rangeLeft w.heap.size wz.heap.size from by
                    rw [MapKd.ranges_left HR5.out (HBr.out.block _ (MapKd.own_lt (MapKd.ranges_own HR5.out))) (HBr.out.block _ (MapKd.ranges_lt HR5.out))]
                    exact HLT5.out)
                  go_wp2_with (first | (at_mapUpdate; refine wpList_update_ranges _ MU rfl _ _ _ 64 rfl 63 Try.underlying64 w.heap.size wz.heap.size O'.length O' (done ++ [((y0, y1, y2, y3), (vN : Int))]) rfl HRX.out (y0, y1, y2, y3) (cu : Int) (vN : Int) rfl rfl HXY.out ?_; intro w8 hr8 hl8 hg8 hs8) | fail)
                  have HR8 := Aside0.mk hr8
                  have HL8 := Aside0.mk (show w8.rangeLeft w.heap.size wz.heap.size < wy.rangeLeft w.heap.size wz.heap.size from by rw [hl8]; exact HLX.out)
                  have HM8 := Aside0.mk ((HM5.out.step HBr.out).map_ (MapKd.own_is (MapKd.ranges_own HRX.out)) (by have := HBE.out; omega) hg8)
                  have HF8 := Aside0.mk ((HF5.out.below HBr.out).step hg8 (fun q hq => .inr (.inr (by have := Option.some.inj hq; omega))))
                  have HS8 := Aside0.mk (show wz.heap.size < w8.heap.size from by
                    have h1 := MapKd.ranges_lt HR5.out
                    have h2 := HBr.out.size
                    omega)
                  have HLEN := Aside0.mk (show (setA O' (y0, y1, y2, y3) (cu : Int)).length = O'.length from by unfold setA; rw [List.length_map])
                  rw [← HLEN.out] at hr8
                  have HR9 := Aside0.mk hr8
                  have HD8 := Aside0.mk (HD.out.setA (y := (y0, y1, y2, y3)) (v := (cu : Int)) HSY.out)
                  have HV8 := Aside0.mk (show ∀ p ∈ setA O' (y0, y1, y2, y3) (cu : Int), (p ∈ setA (done ++ [((y0, y1, y2, y3), (vN : Int))]) (y0, y1, y2, y3) (cu : Int) ∧ p.2 = (bvN k t1 p.1 : Int)) ∨ (p ∉ setA (done ++ [((y0, y1, y2, y3), (vN : Int))]) (y0, y1, y2, y3) (cu : Int) ∧ p.2 = (bvN k (t1 - 1) p.1 : Int)) from fun p hp => by
                    rcases mem_setA hp with ⟨e1, _⟩ | ⟨hne, hin⟩
                    · refine .inl ⟨?_, by rw [e1]; exact HCV.out⟩
                      have := setA_mem (x := (y0, y1, y2, y3)) (y := (cu : Int)) (L := done ++ [((y0, y1, y2, y3), (vN : Int))]) (p := ((y0, y1, y2, y3), (vN : Int))) (List.mem_append_right _ List.mem_cons_self)
                      rw [if_pos rfl] at this
                      rw [e1]; exact this
                    · rcases HV.out p hin with ⟨h1, h2⟩ | ⟨h1, h2⟩
                      · refine .inl ⟨?_, h2⟩
                        have := setA_mem (x := (y0, y1, y2, y3)) (y := (cu : Int)) (L := done ++ [((y0, y1, y2, y3), (vN : Int))]) (p := p) (List.mem_append_left _ h1)
                        rw [if_neg hne] at this
                        exact this
                      · refine .inr ⟨fun hc => ?_, h2⟩
                        rcases mem_setA hc with ⟨e1, _⟩ | ⟨_, hc⟩
                        · exact hne (by rw [e1])
                        · rcases List.mem_append.1 hc with hc | hc
                          · exact h1 hc
                          · exact hne (by rw [List.mem_singleton.1 hc]))
                  clear hr8 hl8 hg8 hs8
                  simp only [put_none]
                  go_roundw
                  case rel => exact ⟨_, _, L5, HR9, HD8, HV8, HM8, HF8, HS8⟩
                  case measure => exact HL8.out
        · have ct0 : decide (t1 ≤ T) = false := decide_eq_false ct
          have ct1 : decide ((t1 : Int) ≤ (T : Int)) = false := decide_eq_false (by omega)
          obtain rfl : t1 = T + 1 := by omega
          go_wp2_with fail
          go_ret
          exact ⟨O, L, rfl, HS.out.out, HD.out, HV.out, by have := HS.out.fr; rw [HOB.out] at this; exact this⟩
end Go.Proofs.Ytlhodfjdmafapaa
end
section
namespace Go.Proofs.Ytlhodfjdmafapaa
open Go.RowKit Go.Maps Go.Proofs.YtlhodfjdmafapaaW.PrintWords Go.Proofs.YtlhodfjdmafapaaW.PrintLast Go.Proofs.Ytlhodfjdmafapaa.QIm
set_option linter.unusedVariables false
set_option linter.unusedSimpArgs false
theorem row_one (W : World) (base : Nat) (s : Sd) (hb : base ≤ W.heap.size) : k4.R 22 (W.alloc (.cells #[.int .i64 s.1, .int .i64 s.2.1, .int .i64 s.2.2.1, .int .i64 s.2.2.2] 22)) base (fun _ => True) (.slice (some ⟨W.heap.size, 0, none⟩) 1 1) [s] := by
  refine ⟨fun j hj => trivial, [.int .i64 s.1, .int .i64 s.2.1, .int .i64 s.2.2.1, .int .i64 s.2.2.2], ?_, rfl, fun j p hp => ?_⟩
  · exact World.ownsRow_lit (base := base) (e := 22) (size := 4) W #[.int .i64 s.1, .int .i64 s.2.1, .int .i64 s.2.2.1, .int .i64 s.2.2.2] 1 hb (by decide) rfl
  · cases j with
    | zero =>
      simp only [List.getElem?_cons_zero, Option.some.injEq] at hp
      subst hp
      exact k4_mkM _ _ _ _
    | succ j => simp at hp
theorem meter_c (k : Nat → Int) (base : Nat) (w : World) (hb : base ≤ w.heap.size) : Calls Try.prog 55 #[A4 k] w fun e w' => ∃ bm be : Nat, e = .returned (.pointer (some ⟨bm, 0, none⟩)) ∧ Mtr k bm be base w' [] ∧ base ≤ be ∧ Below w.heap.size w w' := by
  have hmm := @run_makeMap Try.prog
  go_enter Try.func55, Try.ntmps55
  go_wp2_with fail
  go_ret
  refine ⟨w.heap.size + 1 + 1, w.heap.size + 1, rfl, ⟨?_, ⟨?_, fun p hp => absurd hp List.not_mem_nil, fun y hy => ?_, List.Pairwise.nil⟩, fun p hp => absurd hp List.not_mem_nil⟩, by omega, below_alloc (below_alloc (below_alloc (Below.refl _ _) _) _) _⟩
  · exact box_new (by simp)
  · have h := MapKd.own_alloc (MapKd.own_made ME (w.alloc (.cells #[.int .i64 (k 0), .int .i64 (k 1), .int .i64 (k 2), .int .i64 (k 3)] 27 (0, 0)))) (.cells #[.int .i64 (k 0), .int .i64 (k 1), .int .i64 (k 2), .int .i64 (k 3), .map (some (w.heap.size + 1))] 104 (0, 0))
    simp only [World.size_alloc] at h
    exact h
  · unfold qE
    rw [hy]
    rfl
theorem span_c (t : Int) (w : World) : Calls Try.prog 54 #[.int .i64 t] w fun e w' => e = .returned (.bool (inB 1 60 t)) ∧ Below w.heap.size w w' := by
  go_enter Try.func54, Try.ntmps54
  go_wp2_with fail
  refine (within_any t 1 60 _).mono ?_
  rintro e w1 ⟨rfl, rfl⟩
  go_wp2_with fail
  go_ret
  exact ⟨rfl, Below.refl _ _⟩
theorem spans_c (k : Nat → Int) (bm be base : Nat) (x : Sd) (T : Nat) (hT : T ≤ 60) (lv : Value) (L : List (Sd × Value)) (hk : isKitB k = true) (hx : Sand k (fn4 x)) (w0 w : World) (hm : Mtr k bm be base w L) (hw0 : Below base w0 w) (hbase : base ≤ w.heap.size) (hl : k4.R 22 w base (fun _ => True) lv [x]) (hbe : base ≤ be) :
    Calls Try.prog 56 #[.pointer (some ⟨bm, 0, none⟩), lv, .int .i64 T] w fun e w' => ∃ (bo : Nat) (O : List (Sd × Int)), e = .returned (.map (some bo)) ∧ MU.own w' bo O.length O ∧ SDone k x O ∧ (∀ p ∈ O, p.2 = (bvN k T p.1 : Int)) ∧ Below base w0 w' :=
  (spans_any k bm be base x T hT lv L hk hx w0 w hm hw0 hbase hl hbe).mono fun e w' ⟨O, L', h1, h2, h3, h4, h5⟩ => ⟨_, O, h1, h2, h3, h4, h5.to hw0 hbase hbe (Kd.R_base hl)⟩
theorem span_look {k : Nat → Int} {w : World} {bo T : Nat} {O : List (Sd × Int)} {x0 x1 x2 x3 : Int} (hown : MU.own w bo O.length O) (hd : SDone k (x0, x1, x2, x3) O) (hv : ∀ p ∈ O, p.2 = (bvN k T p.1 : Int)) (hg : good4 (x0, x1, x2, x3)) : (Instr.lookup 64 (.map (some bo)) (.agg #[.int .i64 x0, .int .i64 x1, .int .i64 x2, .int .i64 x3]) false).run Try.prog w = .ok (.int .u64 (bvN k T (x0, x1, x2, x3) : Int)) w := by
  obtain ⟨v, hin⟩ := hd.start
  have e := hv _ hin
  simp only at e
  subst e
  have := look_own1 (M := MU) hown Try.underlying64 zeroU hg w (Below.refl _ _)
  rw [getA_mem hd.nd hin] at this
  exact this
set_option maxRecDepth 100000 in
set_option maxHeartbeats 4000000 in
theorem meas_b (k : Nat → Int) (s0 s1 s2 s3 t : Int) (b1 b2 : Bool) (h1 : narB k (fn4 (s0, s1, s2, s3)) = b1) (h2 : inB 1 60 t = b2) (w : World) : Calls Try.prog 21 #[A4 k, .agg #[.int .i64 s0, .int .i64 s1, .int .i64 s2, .int .i64 s3], .int .i64 t] w fun e w' => e = .returned (.tuple #[.bool (b1 && b2 && mB k t.toNat (s0, s1, s2, s3)), .bool (b1 && b2)]) ∧ Below w.heap.size w w' := by
  have H1 := Aside0.mk h1
  have H2 := Aside0.mk h2
  clear h1 h2
  go_enter Try.func21, Try.ntmps21
  go_wp2_with fail
  have HNA := fun W => nar_any k (fn4 (s0, s1, s2, s3)) b1 H1.out W
  have HNB : ∀ W : World, Calls Try.prog 46 #[A4 k, .agg #[.int .i64 s0, .int .i64 s1, .int .i64 s2, .int .i64 s3]] W fun e w' => e = .returned (.bool b1) ∧ Below W.heap.size W w' := HNA
  refine (HNB _).mono ?_
  rintro e w1 ⟨rfl, hb⟩
  have HK1 := Aside0.mk (blk_below (blk_alloc (heap_alloc_new w (.cells #[.int .i64 (k 0), .int .i64 (k 1), .int .i64 (k 2), .int .i64 (k 3)] 27 (0, 0))) (.cells #[.int .i64 s0, .int .i64 s1, .int .i64 s2, .int .i64 s3] 22 (0, 0))) hb)
  have HS1 := Aside0.mk (show w1.heap[w.heap.size + 1]? = some (.cells #[.int .i64 s0, .int .i64 s1, .int .i64 s2, .int .i64 s3] 22 (0, 0)) by
    have := blk_below (heap_alloc_new (w.alloc (.cells #[.int .i64 (k 0), .int .i64 (k 1), .int .i64 (k 2), .int .i64 (k 3)] 27 (0, 0))) (.cells #[.int .i64 s0, .int .i64 s1, .int .i64 s2, .int .i64 s3] 22 (0, 0))) hb
    simpa using this)
  have HB1 := Aside0.mk (show Below w.heap.size w w1 from below_chain (below_alloc (below_alloc (Below.refl _ _) _) _) hb)
  clear hb HNA HNB
  cases b1 with
  | false =>
    go_wp2_with fail
    all_goals (go_ret2; exact ⟨rfl, HB1.out⟩)
  | true =>
    have hsp := span_c t
    rw [H2.out] at hsp
    go_wp2_with fail
    refine (hsp _).mono ?_
    rintro e w2 ⟨rfl, hb⟩
    have HK2 := Aside0.mk (blk_below HK1.out hb)
    have HS2 := Aside0.mk (blk_below HS1.out hb)
    have HB2 := Aside0.mk (below_chain HB1.out hb)
    clear hb hsp
    cases b2 with
    | false =>
      go_wp2_with fail
      all_goals (go_ret2; exact ⟨rfl, HB2.out⟩)
    | true =>
      obtain ⟨n1, n2, n3⟩ := nar_parts H1.out
      have HKB := Aside0.mk n1
      have HSD := Aside0.mk (sand_of n1 n2)
      have HG := Aside0.mk (sand_good HSD.out)
      have hin := H2.out
      rw [inB_iff] at hin
      obtain ⟨T, rfl⟩ : ∃ T : Nat, t = (T : Int) := ⟨t.toNat, by omega⟩
      have hT : T ≤ 60 := by omega
      clear n1 n2 n3 hin
      have MK1 := Aside0.mk (show ∀ W' : World, Below w2.heap.size w2 W' → W'.cell? ⟨w.heap.size, 0, none⟩ = some (.int .i64 (k 0)) ∧ W'.cell? ⟨w.heap.size, 1, none⟩ = some (.int .i64 (k 1)) ∧ W'.cell? ⟨w.heap.size, 2, none⟩ = some (.int .i64 (k 2)) ∧ W'.cell? ⟨w.heap.size, 3, none⟩ = some (.int .i64 (k 3)) ∧ W'.cell? ⟨w.heap.size + 1, 0, none⟩ = some (.int .i64 (s0)) ∧ W'.cell? ⟨w.heap.size + 1, 1, none⟩ = some (.int .i64 (s1)) ∧ W'.cell? ⟨w.heap.size + 1, 2, none⟩ = some (.int .i64 (s2)) ∧ W'.cell? ⟨w.heap.size + 1, 3, none⟩ = some (.int .i64 (s3)) from fun W' hb =>
        have e := blk_below HK2.out hb
        have e2 := blk_below HS2.out hb
        ⟨(blk_cell e 0).trans rfl, (blk_cell e 1).trans rfl, (blk_cell e 2).trans rfl, (blk_cell e 3).trans rfl, (blk_cell e2 0).trans rfl, (blk_cell e2 1).trans rfl, (blk_cell e2 2).trans rfl, (blk_cell e2 3).trans rfl⟩)
      have HBV := Aside0.mk (show (bits BinOp.and IntKind.u64 ((bvN k T (s0, s1, s2, s3) : Int) / 2 ^ T) 1 == 1) = mB k T (s0, s1, s2, s3) from by
        have h1 := bv_lt k T (s0, s1, s2, s3)
        have h2 := two_pow_lt hT
        rw [Nat.pow_succ] at h1
        exact bit_read (by omega))
      go_wp2_with fail
      go_region_held3 (fun w' => w'.cell? ⟨w.heap.size, 0, none⟩ = some (.int .i64 (k 0)) ∧ w'.cell? ⟨w.heap.size, 1, none⟩ = some (.int .i64 (k 1)) ∧ w'.cell? ⟨w.heap.size, 2, none⟩ = some (.int .i64 (k 2)) ∧ w'.cell? ⟨w.heap.size, 3, none⟩ = some (.int .i64 (k 3)) ∧ w'.cell? ⟨w.heap.size + 1, 0, none⟩ = some (.int .i64 (s0)) ∧ w'.cell? ⟨w.heap.size + 1, 1, none⟩ = some (.int .i64 (s1)) ∧ w'.cell? ⟨w.heap.size + 1, 2, none⟩ = some (.int .i64 (s2)) ∧ w'.cell? ⟨w.heap.size + 1, 3, none⟩ = some (.int .i64 (s3)))
        (first | (refine MK1.out _ ?_; ((repeat first | (with_reducible assumption) | (with_reducible exact Below.refl _ _) | ((with_reducible refine bl_alloc _ ?_ ?_); focus (first | (simp; done) | (simp; omega) | omega | (with_reducible exact below_size (by with_reducible assumption)))) | (with_reducible refine Below.drew ?_) | (with_reducible refine bl_drewN _ ?_)); done)))
        (first
          | (go_at_call 55; refine (meter_c k w2.heap.size _ (below_size (show Below w2.heap.size w2 _ by ((repeat first | (with_reducible assumption) | (with_reducible exact Below.refl _ _) | ((with_reducible refine bl_alloc _ ?_ ?_); focus (first | (simp; done) | (simp; omega) | omega | (with_reducible exact below_size (by with_reducible assumption)))) | (with_reducible refine Below.drew ?_) | (with_reducible refine bl_drewN _ ?_)); done)))).mono ?_; rintro e w7 ⟨bm, be, rfl, hM7, hbe7, hb7⟩; have q7 : Below w2.heap.size w2 w7 := below_chain (by ((repeat first | (with_reducible assumption) | (with_reducible exact Below.refl _ _) | ((with_reducible refine bl_alloc _ ?_ ?_); focus (first | (simp; done) | (simp; omega) | omega | (with_reducible exact below_size (by with_reducible assumption)))) | (with_reducible refine Below.drew ?_) | (with_reducible refine bl_drewN _ ?_)); done)) hb7)
          | (go_at_call 56; refine (spans_c k bm be w2.heap.size (s0, s1, s2, s3) T hT _ [] HKB.out HSD.out w2 _ (by first | (with_reducible exact hM7) | (with_reducible exact hM7.step (below_alloc (Below.refl _ _) _))) (by ((repeat first | (with_reducible assumption) | (with_reducible exact Below.refl _ _) | ((with_reducible refine bl_alloc _ ?_ ?_); focus (first | (simp; done) | (simp; omega) | omega | (with_reducible exact below_size (by with_reducible assumption)))) | (with_reducible refine Below.drew ?_) | (with_reducible refine bl_drewN _ ?_)); done)) (below_size (show Below w2.heap.size w2 _ by ((repeat first | (with_reducible assumption) | (with_reducible exact Below.refl _ _) | ((with_reducible refine bl_alloc _ ?_ ?_); focus (first | (simp; done) | (simp; omega) | omega | (with_reducible exact below_size (by with_reducible assumption)))) | (with_reducible refine Below.drew ?_) | (with_reducible refine bl_drewN _ ?_)); done))) (by first | (with_reducible exact row_one w7 w2.heap.size (s0, s1, s2, s3) (below_size q7)) | (exact Kd.R_below (Kd.R_drew (row_one _ w2.heap.size (s0, s1, s2, s3) (Nat.le_refl _))) hb7) | (exact Kd.R_below (row_one _ w2.heap.size (s0, s1, s2, s3) (Nat.le_refl _)) hb7)) hbe7).mono ?_; rintro e w9 ⟨bo, O, rfl, hown, hdone, hval, q9⟩; obtain ⟨N, hN⟩ : ∃ N, N = bvN k T (s0, s1, s2, s3) := ⟨_, rfl⟩; have hlk2 : (Instr.lookup 64 (.map (some bo)) (.agg #[.int .i64 s0, .int .i64 s1, .int .i64 s2, .int .i64 s3]) false).run Try.prog w9 = .ok (.int .u64 (N : Int)) w9 := hN ▸ span_look hown hdone hval HG.out))
      all_goals
        go_wp2_with fail
        go_ret2
        exact ⟨by rw [HBV.out]; rfl, below_chain HB2.out q9⟩
end Go.Proofs.Ytlhodfjdmafapaa
end
