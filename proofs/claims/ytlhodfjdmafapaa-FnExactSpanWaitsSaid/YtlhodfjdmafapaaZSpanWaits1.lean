/- Texts behind a row, merged by a program of this repo. No statement of the seat is proved here. -/
import Derived.Test.YtlhodfjdmafapaaZSpanWaits0
import Derived.Deep.RegionHeld3
import Derived.Deep.DeepCutAuto
import Derived.Laws.Bits64b
import Derived.Test.YtlhodfjdmafapaaWWords
import Derived.Test.YtlhodfjdmafapaaProg
import Derived.Below
import Derived.Deep.Draws
import Derived.Deep.AppendLies
import Derived.Maps.AppendAt
import Derived.OwnWalk
import Derived.Laws.BytesArg
import Derived.Laws.MakeOwn
import Derived.Laws.OwnMore
import Derived.Deep.OwnRows
import Derived.Tactics
import Derived.Lib.ConvBytes
import Derived.Laws.Slices
import Derived.WalkKit
import Derived.KernelRfl
import Derived.RowKit3
import Derived.Deep.LoopGhost
import Derived.Deep.QuietTactic
import Derived.BigQuiet
import Derived.WideLaws
import Derived.Deep.CutBlock
import Derived.Laws.Rows
import Derived.Lib.AppendStr
import Derived.ArgAppend
import Derived.Laws.IdiomCopy
import Derived.OrdersHeld
import Derived.Laws.BitsLemmas
import Derived.RowKit
import Derived.Test.YtlhodfjdmafapaaWLast
import Derived.Test.YtlhodfjdmafapaaWTab
import Derived.Test.YtlhodfjdmafapaaWQPut
import Derived.Test.YtlhodfjdmafapaaWApart
import Derived.Test.YtlhodfjdmafapaaWArr
import Derived.Test.YtlhodfjdmafapaaWZeros
import Derived.Test.YtlhodfjdmafapaaWFoot
import Derived.Test.YtlhodfjdmafapaaWKept
import Derived.Test.YtlhodfjdmafapaaWShare
import Derived.Test.YtlhodfjdmafapaaWN
import Derived.Test.YtlhodfjdmafapaaWFootNe
import Derived.Test.YtlhodfjdmafapaaWAt
import Derived.Laws.StructEq
import Derived.Test.YtlhodfjdmafapaaWRepsOne
import Derived.Test.YtlhodfjdmafapaaWInv
import Derived.Test.YtlhodfjdmafapaaWInvWords
import Derived.Test.YtlhodfjdmafapaaWNEv
import Derived.Test.YtlhodfjdmafapaaWMore
section
namespace Go.Proofs.Ytlhodfjdmafapaa
open Go.RowKit Go.Maps Go.Proofs.YtlhodfjdmafapaaW.PrintWords Go.Proofs.YtlhodfjdmafapaaW.PrintLast
set_option linter.unusedVariables false
set_option linter.unusedSimpArgs false
def ME : MapKd Try.prog 22 Sd Value := mk4 (fun v => v) (fun _ _ e => e)
noncomputable def qE (k : Nat → Int) (L : List (Sd × Value)) (y : Sd) : List Edge := if (getA L y).isSome = true then edgesL k y else []
/-- the meter at block bm, its rows by the map be -/
structure Mtr (k : Nat → Int) (bm be base : Nat) (w : World) (L : List (Sd × Value)) : Prop where
 blk : w.heap[bm]? = some (.cells #[.int .i64 (k 0), .int .i64 (k 1), .int .i64 (k 2), .int .i64 (k 3), .map (some be)] 104 (0, 0))
 map : QL ME kE 109 w be base (fun _ => True) L.length (qE k L) L
 sand : ∀ p ∈ L, Sand k (fn4 p.1)
theorem Mtr.step {k : Nat → Int} {bm be base : Nat} {w w' : World} {L : List (Sd × Value)} (h : Mtr k bm be base w L) (hb : Below w.heap.size w w') : Mtr k bm be base w' L := ⟨blk_below h.blk hb, h.map.below hb, h.sand⟩
theorem grown_below {w w' : World} (h : Below w.heap.size w w') (row : Option Nat) : w.grownBy w' row := ⟨h.os, h.tape, h.output, h.size, fun k hk _ => h.block k hk⟩
theorem grown_trans {w w1 w2 : World} {row : Option Nat} (h1 : w.grownBy w1 row) (h2 : w1.grownBy w2 row) : w.grownBy w2 row :=
 ⟨h2.os.trans h1.os, h2.tape.trans h1.tape, h2.output.trans h1.output, Nat.le_trans h1.size h2.size, fun k hk hne => (h2.block k (Nat.lt_of_lt_of_le hk h1.size) hne).trans (h1.block k hk hne)⟩
theorem box_new {W : World} {o : Obj} {n : Nat} (h : W.heap.size = n) : (W.alloc o).heap[n]? = some o := h ▸ heap_alloc_new W o
theorem infoE : (Try.prog.info? 109).map (fun i => (i.zero, i.size, i.bytes)) = some (some (.agg #[(.int .i64 0), (.int .i64 0), (.int .i64 0), (.int .i64 0), (.int .i64 0)]), 5, 40) := by kernel_rfl
theorem zeroE (w : World) : (zeroValue 106).run Try.prog w = .ok (.slice none 0 0) w := by kernel_rfl
def FromPost (k : Nat → Int) (bm be base : Nat) (x : Sd) (L : List (Sd × Value)) (w : World) (e : Ending) (w' : World) : Prop :=
 ∃ (v : Value) (L' : List (Sd × Value)), e = .returned v ∧ Mtr k bm be base w' L' ∧ (getA L' x).getD (.slice none 0 0) = v ∧ (getA L' x).isSome = true ∧ w.grownBy w' (some be)
theorem look_own {P : Program} {k : TypeId} {α β : Type} {M : MapKd P k α β} {w : World} {b n : Nat} {L : List (α × β)} (h : M.own w b n L) {t e : TypeId} (ht : P.underlying t = some (.map k e)) {z : β} (hz : ∀ u : World, (zeroValue e).run P u = .ok (M.eV z) u) {key : α} (hg : M.good key) (w' : World) (hb : Below w.heap.size w w') :
  (Instr.lookup t (.map (some b)) (M.eK key) true).run P w' = .ok (.tuple #[M.eV ((getA L key).getD z), .bool (getA L key).isSome]) w' := by
 obtain ⟨D, h1, h2⟩ := MapKd.own_below h hb
 obtain ⟨v, ps, hrun, hv⟩ := h1.look_ok M.law ht (hz w') (show rdV (M.eV z) = some (.held (M.eV z), []) from rfl) (M.key key hg)
 have hv' : v = M.eV ((getA L key).getD z) := by
  simp only [rdV, Option.some.injEq, Prod.mk.injEq] at hv
  cases e1 : getA L key with
  | some y => rw [h2.at_some e1] at hv; simpa using hv.1
  | none => rw [Maps.atKey_of_not_has (h2.has_none hg e1)] at hv; simpa using hv.1
 rw [h2.has_eq hg, hv'] at hrun
 exact hrun
theorem qE_some {k : Nat → Int} {L : List (Sd × Value)} {y : Sd} (h : (getA L y).isSome = true) : qE k L y = edgesL k y := by unfold qE; rw [if_pos h]
theorem R_map {β : Type} {d : Kd β} (hd : Flat d) {e base : Nat} {ok : Nat → Prop} {w w' : World} {v : Value} {xs : List β} (h : d.R e w base ok v xs) {b : Nat} (hm : ∃ es c, w.heap[b]? = some (.map es c)) (hg : w.grownBy w' (some b)) : d.R e w' base ok v xs :=
 R_only hd h (fun j hj => hg.block j (Kd.R_lt h j hj) (fun e1 => by
  obtain ⟨cells, hc⟩ := Kd.R_typed h j hj
  obtain ⟨es, c, hm⟩ := hm
  rw [Option.some.inj e1, hm] at hc; cases hc))
theorem Mtr.put {k : Nat → Int} {bm be base : Nat} {w W w' : World} {L : List (Sd × Value)} (h : Mtr k bm be base w L) (hb : Below w.heap.size w W) {x : Sd} {v : Value} (hx : Sand k (fn4 x)) (hn : getA L x = none)
  (hR : kE.R 109 W w.heap.size (fun _ => True) v (edgesL k x)) (hbase : base ≤ w.heap.size) (hown : ME.own w' be (L.length + 1) (putA L x v)) (hg : W.grownBy w' (some be)) : Mtr k bm be base w' (putA L x v) := by
 have h2 := h.step hb
 have hmap := h2.map.is
 refine ⟨blk_grown h2.blk hg (fun e => ?_), ⟨MapKd.own_tight hown, fun p hp => ?_, fun y hy => ?_, ?_⟩, fun p hp => ?_⟩
 ·obtain ⟨es, c, hm⟩ := hmap
  have := h2.blk
  rw [Option.some.inj e, hm] at this
  cases this
 ·rw [putA_absent hn] at hp
  rw [qE_some (by
   rcases List.mem_cons.1 hp with rfl | hp
   ·rw [getA_put, if_pos rfl]; rfl
   ·rw [getA_put]
    split
    ·rfl
    ·rw [getA_mem (MapKd.own_nodup h.map.own) (x := p.1) (y := p.2) hp]; rfl)]
  rcases List.mem_cons.1 hp with rfl | hp
  ·exact Kd.R_lower (R_map flatE hR hmap hg) hbase
  ·have := h2.map.row p hp
   rw [qE_some (by rw [getA_mem (MapKd.own_nodup h.map.own) (x := p.1) (y := p.2) hp]; rfl)] at this
   exact R_map flatE this hmap hg
 ·unfold qE
  rw [hy]
  rfl
 ·rw [putA_absent hn]
  refine List.pairwise_cons.2 ⟨fun p hp j hj e1 => ?_, h.map.apart⟩
  have h3 := Kd.R_lt (h.map.row p hp) j e1
  have h4 := Kd.R_base hR j hj
  omega
 ·rw [putA_absent hn] at hp
  rcases List.mem_cons.1 hp with rfl | hp
  ·exact hx
  ·exact h.sand p hp
theorem store_own {P : Program} {k : TypeId} {α β : Type} {M : MapKd P k α β} {w : World} {b n : Nat} {L : List (α × β)} (h : M.own w b n L) {t e : TypeId} (ht : P.underlying t = some (.map k e)) (hn : n < maxLen) {key : α} (val : β) (hg : M.good key) :
  ∃ w', (Instr.mapUpdate t (.map (some b)) (M.eK key) (M.eV val)).run P w = .ok () w' ∧ M.own w' b (n + 1) (putA L key val) ∧ w.grownBy w' (some b) := by
 obtain ⟨D, h1, h2⟩ := h
 obtain ⟨w', hrun, r1, r2⟩ := h1.store M.law ht hn (M.key key hg) (show rdV (M.eV val) = some (.held (M.eV val), []) from rfl)
 exact ⟨w', hrun, ⟨_, r1, h2.put hg val⟩, r2.grown⟩
set_option maxRecDepth 100000 in
set_option maxHeartbeats 4000000 in
theorem from_any (k : Nat → Int) (bm be base : Nat) (x0 x1 x2 x3 : Int) (L : List (Sd × Value)) (hk : isKitB k = true) (hx : Sand k (fn4 (x0, x1, x2, x3))) (w : World) (hm : Mtr k bm be base w L) (hbase : base ≤ w.heap.size) :
  Calls Try.prog 81 #[.pointer (some ⟨bm, 0, none⟩), .agg #[.int .i64 x0, .int .i64 x1, .int .i64 x2, .int .i64 x3]] w (FromPost k bm be base (x0, x1, x2, x3) L w) := by
 have HM := Aside0.mk hm
 have HX := Aside0.mk hx
 have HG := Aside0.mk (sand_good hx)
 have HBS := Aside0.mk hbase
 have HKB := Aside0.mk hk
 clear hm hx hbase hk
 go_enter Try.func81, Try.ntmps81
 go_wp2_with fail
 obtain ⟨w0, hw0⟩ : ∃ w0, w0 = w.alloc (.cells #[.int .i64 x0, .int .i64 x1, .int .i64 x2, .int .i64 x3] 22 (0, 0)) := ⟨_, rfl⟩
 have HB0 := Aside0.mk (show Below w.heap.size w w0 from by rw [hw0]; exact below_alloc (Below.refl _ _) _)
 have HXB := Aside0.mk (show w0.heap[w.heap.size]? = some (.cells #[.int .i64 x0, .int .i64 x1, .int .i64 x2, .int .i64 x3] 22 (0, 0)) from by rw [hw0]; exact heap_alloc_new w _)
 have HM0 := Aside0.mk (HM.out.step HB0.out)
 rw [← hw0]
 clear hw0
 have hlk : ∀ n : Nat, (Instr.lookup 102 (.map (some be)) (.agg #[.int .i64 x0, .int .i64 x1, .int .i64 x2, .int .i64 x3]) true).run Try.prog (w0.drewN n) = .ok (.tuple #[(getA L (x0, x1, x2, x3)).getD (.slice none 0 0), .bool (getA L (x0, x1, x2, x3)).isSome]) (w0.drewN n) := fun n => look_own (M := ME) HM0.out.map.own Try.underlying102 zeroE HG.out _ (pw_below_drewN (Below.refl _ _) n)
 have m4 : w0.cell? ⟨bm, 4, none⟩ = some (.map (some be)) := (blk_cell HM0.out.blk 4).trans rfl
 have r0 : w0.cell? ⟨w.heap.size, 0, none⟩ = some (.int .i64 x0) := (blk_cell HXB.out 0).trans rfl
 have r1 : w0.cell? ⟨w.heap.size, 1, none⟩ = some (.int .i64 x1) := (blk_cell HXB.out 1).trans rfl
 have r2 : w0.cell? ⟨w.heap.size, 2, none⟩ = some (.int .i64 x2) := (blk_cell HXB.out 2).trans rfl
 have r3 : w0.cell? ⟨w.heap.size, 3, none⟩ = some (.int .i64 x3) := (blk_cell HXB.out 3).trans rfl
 obtain ⟨v0, hv0⟩ : ∃ v0, (getA L (x0, x1, x2, x3)).getD (.slice none 0 0) = v0 := ⟨_, rfl⟩
 cases hg : (getA L (x0, x1, x2, x3)).isSome with
 | true =>
  rw [hv0, hg] at hlk
  have HV := Aside0.mk hv0
  have HGG := Aside0.mk hg
  clear hv0 hg
  go_quiet (fail)
  go_wp2_with fail
  go_ret
  have hb : Below w.heap.size w _ := pw_below_drewN HB0.out nq
  exact ⟨v0, L, rfl, HM.out.step hb, HV.out, HGG.out, grown_below hb _⟩
 | false =>
  have hnone : getA L (x0, x1, x2, x3) = none := by simpa using hg
  rw [hnone] at hlk
  have HN := Aside0.mk hnone
  clear hv0 hg hnone
  simp only [Option.getD_none, Option.isSome_none] at hlk
  go_quiet (fail)
  obtain ⟨w1, hw1⟩ : ∃ w1, w1 = w0.drewN nq := ⟨_, rfl⟩
  have HB1 := Aside0.mk (show Below w.heap.size w w1 from by rw [hw1]; exact pw_below_drewN HB0.out nq)
  have HXB1 := Aside0.mk (show w1.heap[w.heap.size]? = some (.cells #[.int .i64 x0, .int .i64 x1, .int .i64 x2, .int .i64 x3] 22 (0, 0)) from by rw [hw1]; exact blk_drewN HXB.out nq)
  have HM1 := Aside0.mk (HM.out.step HB1.out)
  rw [← hw1]
  clear hw1 hlk m4 r0 r1 r2 r3 HB0 HXB HM0
  have m0 : w1.cell? ⟨bm, 0, none⟩ = some (.int .i64 (k 0)) := (blk_cell HM1.out.blk 0).trans rfl
  have m1 : w1.cell? ⟨bm, 1, none⟩ = some (.int .i64 (k 1)) := (blk_cell HM1.out.blk 1).trans rfl
  have m2 : w1.cell? ⟨bm, 2, none⟩ = some (.int .i64 (k 2)) := (blk_cell HM1.out.blk 2).trans rfl
  have m3 : w1.cell? ⟨bm, 3, none⟩ = some (.int .i64 (k 3)) := (blk_cell HM1.out.blk 3).trans rfl
  go_wp2_with fail
  refine (sets_any k _).mono ?_
  rintro e w2 ⟨vs, rfl, hR2, hb2⟩
  have HB2 := Aside0.mk (below_chain HB1.out hb2)
  have HXB2 := Aside0.mk (blk_below HXB1.out hb2)
  obtain ⟨n2, hn2, hR2⟩ := R_at hR2
  obtain ⟨A0, c0, rfl, _, _⟩ := Kd.R_reads hR2
  have HS2 := Aside0.mk hR2
  have HN2 := Aside0.mk (show w.heap.size ≤ n2 from by have := HB1.out.size; omega)
  clear m0 m1 m2 m3 hR2 hb2 hn2
  have hsl := setsL_len k
  go_wp2_with fail
  go_loopw [5, 29] (fun v5 v29 wr => ∃ (j : Nat) (v : Value), v5 = v ∧ v29 = .int .i64 j ∧ Aside0 (j ≤ (setsL k).length) ∧ Aside0 (kE.R 109 wr w.heap.size (fun _ => True) v (((setsL k).take j).foldl (edgeAdd k (x0, x1, x2, x3)) [])) ∧ Aside0 (wr.heap[w.heap.size]? = some (.cells #[.int .i64 x0, .int .i64 x1, .int .i64 x2, .int .i64 x3] 22 (0, 0))) ∧ Aside0 (Kd.R (Kd.int .i64) 3 wr n2 (fun _ => True) (.slice A0 (setsL k).length c0) (setsL k)) ∧ Aside0 (Below w.heap.size w wr)) (fun _ v29 _ => (setsL k).length - (intOf v29).toNat)
  case atStart => exact ⟨0, _, rfl, rfl, ⟨Nat.zero_le _⟩, ⟨Kd.R_nil _ _ _ _ _⟩, HXB2, HS2, HB2⟩
  case round =>
   obtain ⟨j, v, rfl, rfl, HJ, HR, HXr, HS, HB⟩ := hrel
   obtain ⟨wy, rfl⟩ : ∃ wy : World, wy = wr := ⟨_, rfl⟩
   have hj := HJ.out
   by_cases cj : j < (setsL k).length
   ·have cj0 : decide (j < (setsL k).length) = true := decide_eq_true cj
    have cj1 : decide ((j : Int) < ((setsL k).length : Int)) = true := decide_eq_true (by omega)
    obtain ⟨set, hset⟩ : ∃ set, (setsL k)[j]? = some set := ⟨_, List.getElem?_eq_getElem cj⟩
    obtain ⟨at1, e1, ht1⟩ := Kd.at_int (Kd.R_reads' HS.out).2.2 (j : Int) (by omega) (by omega)
    cases e1
    rw [show rd (setsL k) (j : Int) = set by simp [rd, List.getD_eq_getElem?_getD, hset], show ((j : Int)).toNat = j from Int.toNat_natCast j] at ht1
    have HTK := Aside0.mk (show ((setsL k).take (j + 1)).foldl (edgeAdd k (x0, x1, x2, x3)) [] = edgeAdd k (x0, x1, x2, x3) (((setsL k).take j).foldl (edgeAdd k (x0, x1, x2, x3)) []) set from by
     rw [List.take_add_one, hset]
     simp)
    obtain ⟨acc, hacc⟩ : ∃ acc, acc = ((setsL k).take j).foldl (edgeAdd k (x0, x1, x2, x3)) [] := ⟨_, rfl⟩
    have HAL := Aside0.mk (show acc.length ≤ 16 from by
     have h1 := foldEdge_len (k := k) (x := (x0, x1, x2, x3)) ((setsL k).take j) []
     rw [← hacc] at h1
     have h2 : ((setsL k).take j).length ≤ 16 := by rw [List.length_take]; omega
     simp only [List.length_nil] at h1
     omega)
    have HAG := Aside0.mk (show ∀ e ∈ acc, goodE e from fun e he => by
     rw [hacc] at he
     rcases (edge_fold _ _ _).1 he with he | ⟨s, hs, h1, h2⟩
     ·exact absurd he List.not_mem_nil
     ·rw [h2]; exact sand_good (sand_tup (HX.out.step s)))
    rw [← hacc] at HR HTK
    clear hacc
    have hd := HX.out.stepD set
    have hgd := sand_good (sand_tup (HX.out.step set))
    obtain ⟨d, hdd⟩ : ∃ d, stepD k (fn4 (x0, x1, x2, x3)) set = d := ⟨_, rfl⟩
    obtain ⟨t0, ht0⟩ : ∃ t, stepS k (fn4 (x0, x1, x2, x3)) set 0 = t := ⟨_, rfl⟩
    obtain ⟨t1, ht1'⟩ : ∃ t, stepS k (fn4 (x0, x1, x2, x3)) set 1 = t := ⟨_, rfl⟩
    obtain ⟨t2, ht2⟩ : ∃ t, stepS k (fn4 (x0, x1, x2, x3)) set 2 = t := ⟨_, rfl⟩
    obtain ⟨t3, ht3⟩ : ∃ t, stepS k (fn4 (x0, x1, x2, x3)) set 3 = t := ⟨_, rfl⟩
    have HSt : ∀ W : World, Calls Try.prog 66 #[A4 k, .agg #[.int .i64 x0, .int .i64 x1, .int .i64 x2, .int .i64 x3], .int .i64 set] W fun e w' => e = .returned (.tuple #[.agg #[.int .i64 t0, .int .i64 t1, .int .i64 t2, .int .i64 t3], .int .i64 d]) ∧ Below W.heap.size W w' := by
     intro W
     have := step_any k (fn4 (x0, x1, x2, x3)) set HX.out W
     rw [hdd] at this
     simp only [A4, ht0, ht1', ht2, ht3] at this
     exact this
    rw [hdd] at hd
    have HGO := Aside0.mk (show goS k (x0, x1, x2, x3) set = (t0, t1, t2, t3) from by rw [← ht0, ← ht1', ← ht2, ← ht3]; rfl)
    have HGD := Aside0.mk (show goD k (x0, x1, x2, x3) set = d from hdd)
    have HG4 := Aside0.mk (show good4 (t0, t1, t2, t3) from by rw [← ht0, ← ht1', ← ht2, ← ht3]; exact hgd)
    have b8 : 0 ≤ d := hd.1
    have b9 : d ≤ 30 := hd.2
    clear hset hd hgd hdd ht0 ht1' ht2 ht3
    have hMy := HM.out.step HB.out
    have m0 : wy.cell? ⟨bm, 0, none⟩ = some (.int .i64 (k 0)) := (blk_cell hMy.blk 0).trans rfl
    have m1 : wy.cell? ⟨bm, 1, none⟩ = some (.int .i64 (k 1)) := (blk_cell hMy.blk 1).trans rfl
    have m2 : wy.cell? ⟨bm, 2, none⟩ = some (.int .i64 (k 2)) := (blk_cell hMy.blk 2).trans rfl
    have m3 : wy.cell? ⟨bm, 3, none⟩ = some (.int .i64 (k 3)) := (blk_cell hMy.blk 3).trans rfl
    have r0 : wy.cell? ⟨w.heap.size, 0, none⟩ = some (.int .i64 x0) := (blk_cell HXr.out 0).trans rfl
    have r1 : wy.cell? ⟨w.heap.size, 1, none⟩ = some (.int .i64 x1) := (blk_cell HXr.out 1).trans rfl
    have r2 : wy.cell? ⟨w.heap.size, 2, none⟩ = some (.int .i64 x2) := (blk_cell HXr.out 2).trans rfl
    have r3 : wy.cell? ⟨w.heap.size, 3, none⟩ = some (.int .i64 x3) := (blk_cell HXr.out 3).trans rfl
    have l1 : bm < wy.heap.size := blk_lt hMy.blk
    have l2 : w.heap.size < wy.heap.size := blk_lt HXr.out
    clear hMy
    go_wp2_with fail
    have MK1 := Aside0.mk (show ∀ W' : World, Below wy.heap.size wy W' → W'.cell? ⟨bm, 0, none⟩ = some (.int .i64 (k 0)) ∧ W'.cell? ⟨bm, 1, none⟩ = some (.int .i64 (k 1)) ∧ W'.cell? ⟨bm, 2, none⟩ = some (.int .i64 (k 2)) ∧ W'.cell? ⟨bm, 3, none⟩ = some (.int .i64 (k 3)) ∧ W'.cell? ⟨w.heap.size, 0, none⟩ = some (.int .i64 (x0)) ∧ W'.cell? ⟨w.heap.size, 1, none⟩ = some (.int .i64 (x1)) ∧ W'.cell? ⟨w.heap.size, 2, none⟩ = some (.int .i64 (x2)) ∧ W'.cell? ⟨w.heap.size, 3, none⟩ = some (.int .i64 (x3)) from fun W' hb => ⟨keep_below hb m0, keep_below hb m1, keep_below hb m2, keep_below hb m3, keep_below hb r0, keep_below hb r1, keep_below hb r2, keep_below hb r3⟩)
    clear ht1 cj0 cj1 m0 m1 m2 m3 r0 r1 r2 r3
    go_cut [9, 10] (fun v9 v10 wx => ∃ gx : Nat, v9 = .pointer (some ⟨gx, 0, none⟩) ∧ v10 = .int .i64 d ∧ wx.cell? ⟨gx, 0, none⟩ = some (.int .i64 t0) ∧ wx.cell? ⟨gx, 1, none⟩ = some (.int .i64 t1) ∧ wx.cell? ⟨gx, 2, none⟩ = some (.int .i64 t2) ∧ wx.cell? ⟨gx, 3, none⟩ = some (.int .i64 t3) ∧ Aside0 (Below wy.heap.size wy wx))
    case first =>
     go_region_held3 (fun w' => w'.cell? ⟨bm, 0, none⟩ = some (.int .i64 (k 0)) ∧ w'.cell? ⟨bm, 1, none⟩ = some (.int .i64 (k 1)) ∧ w'.cell? ⟨bm, 2, none⟩ = some (.int .i64 (k 2)) ∧ w'.cell? ⟨bm, 3, none⟩ = some (.int .i64 (k 3)) ∧ w'.cell? ⟨w.heap.size, 0, none⟩ = some (.int .i64 (x0)) ∧ w'.cell? ⟨w.heap.size, 1, none⟩ = some (.int .i64 (x1)) ∧ w'.cell? ⟨w.heap.size, 2, none⟩ = some (.int .i64 (x2)) ∧ w'.cell? ⟨w.heap.size, 3, none⟩ = some (.int .i64 (x3)))
      (first | (refine MK1.out _ ?_; ((repeat first | (with_reducible assumption) | (with_reducible exact Below.refl _ _) | ((with_reducible refine bl_alloc _ ?_ ?_); focus (first | (simp; done) | (simp; omega) | omega | (with_reducible exact below_size (by with_reducible assumption)))) | ((with_reducible refine bl_set _ ?_ ?_); focus (first | (simp; done) | (simp; omega) | omega | (with_reducible exact below_size (by with_reducible assumption)))) | (with_reducible refine Below.drew ?_) | (with_reducible refine bl_drewN _ ?_)); done)))
      (first
       | (go_at_call 66; refine (HSt _).mono ?_; rintro e w5 ⟨rfl, hb5⟩; have q5 : Below wy.heap.size wy w5 := below_chain (by ((repeat first | (with_reducible assumption) | (with_reducible exact Below.refl _ _) | ((with_reducible refine bl_alloc _ ?_ ?_); focus (first | (simp; done) | (simp; omega) | omega | (with_reducible exact below_size (by with_reducible assumption)))) | ((with_reducible refine bl_set _ ?_ ?_); focus (first | (simp; done) | (simp; omega) | omega | (with_reducible exact below_size (by with_reducible assumption)))) | (with_reducible refine Below.drew ?_) | (with_reducible refine bl_drewN _ ?_)); done)) hb5; have z0 := below_size q5; try (have hx5 : w5.heap[wy.heap.size]? = some (.cells #[.int .i64 0, .int .i64 0, .int .i64 0, .int .i64 0] 22 (0, 0)) := blk_below (by first | (with_reducible refine box_new ?_; first | rfl | simp) | (with_reducible refine blk_drew (box_new ?_); first | rfl | simp)) hb5; have z1 := blk_lt hx5; have y0 : w5.cell? ⟨wy.heap.size, 0, none⟩ = some (.int .i64 0) := (blk_cell hx5 0).trans rfl; have y1 : w5.cell? ⟨wy.heap.size, 1, none⟩ = some (.int .i64 0) := (blk_cell hx5 1).trans rfl; have y2 : w5.cell? ⟨wy.heap.size, 2, none⟩ = some (.int .i64 0) := (blk_cell hx5 2).trans rfl; have y3 : w5.cell? ⟨wy.heap.size, 3, none⟩ = some (.int .i64 0) := (blk_cell hx5 3).trans rfl; have f0 := blk_frozen hx5 0; have f1 := blk_frozen hx5 1; have f2 := blk_frozen hx5 2; have f3 := blk_frozen hx5 3; clear hx5)))
     all_goals
      go_wp2_with fail
      go_meet
      refine ⟨_, rfl, rfl, ?_, ?_, ?_, ?_, ⟨by ((repeat first | (with_reducible assumption) | (with_reducible exact Below.refl _ _) | ((with_reducible refine bl_alloc _ ?_ ?_); focus (first | (simp; done) | (simp; omega) | omega | (with_reducible exact below_size (by with_reducible assumption)))) | ((with_reducible refine bl_set _ ?_ ?_); focus (first | (simp; done) | (simp; omega) | omega | (with_reducible exact below_size (by with_reducible assumption)))) | (with_reducible refine Below.drew ?_) | (with_reducible refine bl_drewN _ ?_)); done)⟩⟩
      all_goals (first | ((with_reducible refine set4_0 (.int .i64 0) ?_); (with_reducible assumption)) | ((with_reducible refine set4_1 (.int .i64 0) ?_); (with_reducible assumption)) | ((with_reducible refine set4_2 (.int .i64 0) ?_); (with_reducible assumption)) | ((with_reducible refine set4_3 (.int .i64 0) ?_); (with_reducible assumption)) | (simp [go_sem]; done))
    case rest =>
     obtain ⟨gx, rfl, rfl, t0c, t1c, t2c, t3c, HBc⟩ := hcut
     have HB2c := Aside0.mk (below_chain HB.out HBc.out)
     have HRc := Aside0.mk (Kd.R_below HR.out HBc.out)
     have HXc := Aside0.mk (blk_below HXr.out HBc.out)
     have HSc := Aside0.mk (Kd.R_below HS.out HBc.out)
     obtain ⟨Aa, ca, rfl, hca, hCa⟩ := Kd.R_reads HRc.out
     have HCa := Aside0.mk hCa
     have HCL := Aside0.mk hca
     clear hCa hca
     by_cases cd : 0 < d
     ·have cd0 : decide (0 < d) = true := decide_eq_true cd
      go_wp2_with fail
      have BX : Below wc.heap.size wc (wc.alloc (.cells #[.int .i64 t0, .int .i64 t1, .int .i64 t2, .int .i64 t3, .int .i64 d] 109 (0, 0))) := below_alloc (Below.refl _ _) _
      cases hin : decide ((((t0, t1, t2, t3), d) : Edge) ∈ acc) with
      | true =>
       refine (contains_any Aa ca acc ((t0, t1, t2, t3), d) true hin HG4.out HAG.out HAL.out _ (Kd.C_below HCa.out BX) HCL.out).mono ?_
       rintro e w6 ⟨rfl, hb6⟩
       have HBX := Aside0.mk (below_chain BX hb6)
       have HSK := Aside0.mk (show edgeAdd k (x0, x1, x2, x3) acc set = acc from by
        unfold edgeAdd
        rw [if_neg]
        rw [HGO.out, HGD.out]
        exact fun h => h.2 (of_decide_eq_true hin))
       clear hin hb6 BX
       go_wp2_with fail
       exact ⟨⟨j + 1, _, rfl, by go_num, ⟨by omega⟩, ⟨by rw [HTK.out, HSK.out]; exact Kd.R_below HRc.out HBX.out⟩, ⟨blk_below HXc.out HBX.out⟩, ⟨Kd.R_below HSc.out HBX.out⟩, ⟨below_chain HB2c.out HBX.out⟩⟩, by simp only [intOf]; omega⟩
      | false =>
       refine (contains_any Aa ca acc ((t0, t1, t2, t3), d) false hin HG4.out HAG.out HAL.out _ (Kd.C_below HCa.out BX) HCL.out).mono ?_
       rintro e w6 ⟨rfl, hb6⟩
       have HBX := Aside0.mk (below_chain BX hb6)
       have HSK := Aside0.mk (show edgeAdd k (x0, x1, x2, x3) acc set = acc ++ [((t0, t1, t2, t3), d)] from by
        unfold edgeAdd
        rw [if_pos]
        ·rw [HGO.out, HGD.out]
        ·rw [HGO.out, HGD.out]
         exact ⟨cd, of_decide_eq_false hin⟩)
       have hE := blk_below (heap_alloc_new wc (.cells #[.int .i64 t0, .int .i64 t1, .int .i64 t2, .int .i64 t3, .int .i64 d] 109 (0, 0))) hb6
       have e0c : w6.cell? ⟨wc.heap.size, 0, none⟩ = some (.int .i64 t0) := (blk_cell hE 0).trans rfl
       have e1c : w6.cell? ⟨wc.heap.size, 1, none⟩ = some (.int .i64 t1) := (blk_cell hE 1).trans rfl
       have e2c : w6.cell? ⟨wc.heap.size, 2, none⟩ = some (.int .i64 t2) := (blk_cell hE 2).trans rfl
       have e3c : w6.cell? ⟨wc.heap.size, 3, none⟩ = some (.int .i64 t3) := (blk_cell hE 3).trans rfl
       have e4c : w6.cell? ⟨wc.heap.size, 4, none⟩ = some (.int .i64 d) := (blk_cell hE 4).trans rfl
       have HR6 := Aside0.mk (Kd.R_below HRc.out HBX.out)
       have HB6 := Aside0.mk (below_chain HB2c.out HBX.out)
       have HX6 := Aside0.mk (blk_below HXc.out HBX.out)
       have HS6 := Aside0.mk (Kd.R_below HSc.out HBX.out)
       have HLA := Aside0.mk (show (acc.length + 1) * 40 ≤ 140737488355328 from by have := HAL.out; omega)
       clear hin hb6 BX hE
       go_wp2_with (first | (at_builtin; refine Kd.R_append kE (w0 := w) w.heap.size rfl (.tmp 54) (.tmp 56) 106 109 (.agg #[(.int .i64 0), (.int .i64 0), (.int .i64 0), (.int .i64 0), (.int .i64 0)]) 40 rfl Try.underlying106 infoE rfl (by decide) (by decide) _ acc ((t0, t1, t2, t3), d) [.int .i64 t0, .int .i64 t1, .int .i64 t2, .int .i64 t3, .int .i64 d] (fun _ => True) (fun _ => False) rfl (by first | (go_simp; done) | (go_simp; rfl)) (kE_mkM _ _ _ _) (fun _ h => h.elim) (fun _ _ => trivial) HR6.out HB6.out HB6.out.size HLA.out ?_; intro v4 w4 hO4 hB4 hg4 hat4) | fail)
       refine ⟨⟨j + 1, _, rfl, by go_num, ⟨by omega⟩, ⟨by rw [HTK.out, HSK.out]; exact hO4⟩, ⟨blk_grown HX6.out hg4 (Kd.R_ne HR6.out HX6.out (by decide))⟩, ⟨Kd.R_over' HS6.out (Kd.R_typed HR6.out) (by decide) hg4⟩, ⟨hB4⟩⟩, by simp only [intOf]; omega⟩
     ·have cd0 : decide (0 < d) = false := decide_eq_false cd
      go_wp2_with fail
      have HBX := Aside0.mk (show Below wc.heap.size wc (wc.alloc (.cells #[.int .i64 t0, .int .i64 t1, .int .i64 t2, .int .i64 t3, .int .i64 d] 109 (0, 0))) from below_alloc (Below.refl _ _) _)
      have HSK := Aside0.mk (show edgeAdd k (x0, x1, x2, x3) acc set = acc from by
       unfold edgeAdd
       rw [if_neg]
       rw [HGD.out]
       exact fun h => cd h.1)
      exact ⟨⟨j + 1, _, rfl, by go_num, ⟨by omega⟩, ⟨by rw [HTK.out, HSK.out]; exact Kd.R_below HRc.out HBX.out⟩, ⟨blk_below HXc.out HBX.out⟩, ⟨Kd.R_below HSc.out HBX.out⟩, ⟨below_chain HB2c.out HBX.out⟩⟩, by simp only [intOf]; omega⟩
   ·have cj0 : decide (j < (setsL k).length) = false := decide_eq_false cj
    have cj1 : decide ((j : Int) < ((setsL k).length : Int)) = false := decide_eq_false (by omega)
    have HFN := Aside0.mk (show ((setsL k).take j).foldl (edgeAdd k (x0, x1, x2, x3)) [] = edgesL k (x0, x1, x2, x3) from by
     rw [List.take_of_length_le (by omega)]
     rfl)
    rw [HFN.out] at HR
    have HMy := Aside0.mk (HM.out.step HB.out)
    have m4 : wy.cell? ⟨bm, 4, none⟩ = some (.map (some be)) := (blk_cell HMy.out.blk 4).trans rfl
    have r0 : wy.cell? ⟨w.heap.size, 0, none⟩ = some (.int .i64 x0) := (blk_cell HXr.out 0).trans rfl
    have r1 : wy.cell? ⟨w.heap.size, 1, none⟩ = some (.int .i64 x1) := (blk_cell HXr.out 1).trans rfl
    have r2 : wy.cell? ⟨w.heap.size, 2, none⟩ = some (.int .i64 x2) := (blk_cell HXr.out 2).trans rfl
    have r3 : wy.cell? ⟨w.heap.size, 3, none⟩ = some (.int .i64 x3) := (blk_cell HXr.out 3).trans rfl
    have HLL := Aside0.mk (few31s (kit_bounds HKB.out) (MapKd.own_nodup HM.out.map.own) HM.out.sand)
    have HRD := Aside0.mk (Kd.R_drew HR.out)
    have HMD := Aside0.mk (HMy.out.step (below_drew (Below.refl _ _)))
    obtain ⟨w', hrun, hown', hgr'⟩ := store_own (M := ME) HMD.out.map.own Try.underlying102 (by have := HLL.out; unfold maxLen; omega) u5 HG.out
    have hrun2 : (Instr.mapUpdate 102 (.map (some be)) (.agg #[.int .i64 x0, .int .i64 x1, .int .i64 x2, .int .i64 x3]) u5).run Try.prog wy.drew = .ok () w' := hrun
    have HOW := Aside0.mk hown'
    have HGR := Aside0.mk hgr'
    clear hrun hown' hgr' cj0 cj1
    go_wp2_with fail
    go_region
    all_goals
     go_wp2_with fail
     go_ret
     refine ⟨u5, putA L (x0, x1, x2, x3) u5, rfl, HM.out.put (below_drew HB.out) HX.out HN.out HRD.out HBS.out HOW.out HGR.out, ?_, ?_, grown_trans (grown_below (below_drew HB.out) _) HGR.out⟩
     ·rw [getA_put, if_pos rfl]; rfl
     ·rw [getA_put, if_pos rfl]; rfl
end Go.Proofs.Ytlhodfjdmafapaa
end
section
namespace Go.Proofs.Ytlhodfjdmafapaa
open Go.RowKit Go.Maps Go.WideShapes Go.ChangeMaps Go.MapKept
open Go.WideElems (Fit rd rg pl rd_key rd_val rg_of rd_mk other_key)
set_option linter.unusedVariables false
set_option linter.unusedSimpArgs false
section
variable {H : Type} {P : Program} {k : TypeId} {R : Value → Option (DataW H × List MemPlace)} {w : World} {b r n : Nat} {D : DataW H} {left : Lit → Bool} {cnt : Nat}
theorem map_set_perm {α : Type} : ∀ (l : List α) (j : Nat) (a : α), j < l.length → (l.set j a).Perm (a :: l.eraseIdx j)
 | [], j, a, h => absurd h (Nat.not_lt_zero _)
 | x :: l, 0, a, _ => by simp
 | x :: l, j + 1, a, h => by
  rw [List.set_cons_succ, List.eraseIdx_cons_succ]
  exact (List.Perm.cons x (map_set_perm l j a (by simpa using h))).trans (List.Perm.swap a x _)
theorem ranges_store {t e : TypeId} (h : w.ranges P k R b r n D left cnt) (K : Keyed P k) (ht : P.underlying t = some (.map k e)) {key val : Value} {kl : Lit} {yv : DataW H × List MemPlace} (hkey : keyOf P k key = some kl) (hv : R val = some yv) (hhas : Maps.has D kl = true) :
  ∃ w', (Instr.mapUpdate t (.map (some b)) key val).run P w = .ok () w' ∧ w'.ranges P k R b r n (D.put kl yv.1) left cnt ∧ w.grownBy w' (some b) ∧ w.heap.size = w'.heap.size := by
 have hne := h.ne
 obtain ⟨es, clock, since, seen, c0, hb, F, hs, rfl, hr, hold, rfl, hl1, hl2, hsc, hsk⟩ := h
 rcases K.find w hkey es.toList F.keys with ⟨h1, h2⟩ | ⟨j, e0, h1, h2, h3⟩
 ·exfalso
  have hat := (atKey_sorted (es.toList.map (rg P k R)) (Maps.fit_rising K F) kl (K.key hkey)).1 (fun p hp e1 => by
   obtain ⟨x, hx, rfl⟩ := List.mem_map.1 hp
   obtain ⟨y, hy⟩ := F.reads x hx
   have m1 := rd_key hy
   rw [rg_of hy] at e1
   rw [e1] at m1
   exact h2 x hx (K.inj m1 hkey))
  rw [Maps.has_false_of_atKey hat] at hhas
  cases hhas
 ·have hj : es[j]? = some e0 := by simpa using h2
  have hjl : j < es.toList.length := (List.getElem?_eq_some_iff.1 h2).1
  have hmem0 : e0 ∈ es.toList := List.mem_of_getElem? h2
  obtain ⟨y0, hy0⟩ := F.reads e0 hmem0
  have hk0 : (rg P k R e0).1 = kl := by
   have m1 := rd_key hy0
   rw [h3, hkey] at m1
   rw [rg_of hy0]
   exact (Option.some.inj m1).symm
  have hlist : (es.modify j (fun e' => { e' with key := key, val := val })).toList = es.toList.set j { e0 with key := key, val := val } := by rw [Array.toList_modify, modify_eq_set _ _ _ _ h2]
  have who : ∀ x ∈ es.toList.set j { e0 with key := key, val := val }, x = { e0 with key := key, val := val } ∨ x ∈ es.toList := by
   intro x hx
   rcases List.mem_or_eq_of_mem_set hx with hx | hx
   ·exact .inr hx
   ·exact .inl hx
  have hnew : rd P k R { e0 with key := key, val := val } = some (kl, yv.1) := rd_mk hkey hv
  have Fn : Fit P k R (es.modify j (fun e' => { e' with key := key, val := val })) clock := by
   refine ⟨by simpa using F.size, stamped_modify F.stamped _ _ (fun _ _ => rfl) (fun e' _ he' => ?_), fun x hx => ?_⟩
   ·rw [hj] at he'; cases he'; exact h3.symm
   ·rw [hlist] at hx
    rcases who x hx with rfl | hx
    ·exact ⟨_, hnew⟩
    ·exact F.reads x hx
  refine ⟨setBlock w b (.map (es.modify j (fun e' => { e' with key := key, val := val })) clock), ?_, ⟨_, clock, since, seen, c0, heap_setBlock_same hb _, Fn, by simpa using hs, ?_, (heap_setBlock_other hb _ hne).trans hr, fun x hx => ?_, ?_, fun x hx => ?_, fun x0 hx0 => ?_, hsc, hsk⟩, ?_, by simp [setBlock]⟩
  ·simp [Instr.mapUpdate, run_underlying ht, MapKept.run_getObj_map hb, K.check w false hkey, h1, hj, h3, K.stays w hkey, MapKept.run_setObj_map _ hb, Result.andThen, setBlock]
  ·rw [DataW.put_eq]
   congr 1
   refine (Maps.sorted_put K.one ⟨key, hkey⟩ (Maps.fit_keys F) (Maps.fit_apart K F) ?_).symm
   rw [Maps.filter_one K F hkey h2 h3, hlist, List.map_set, rg_of hnew]
   exact map_set_perm _ _ _ (by simpa using hjl)
  ·rw [hlist] at hx
   rcases who x hx with rfl | hx
   ·exact hold e0 hmem0
   ·exact hold x hx
  ·have e1 : (leftOf (es.modify j (fun e' => { e' with key := key, val := val })) seen).size = ((es.toList.set j { e0 with key := key, val := val }).filter fun e => !seen.contains e.born).length := by
    unfold leftOf
    rw [← Array.length_toList, Array.toList_filter, hlist]
   have e2 : (leftOf es seen).size = (es.toList.filter fun e => !seen.contains e.born).length := by
    unfold leftOf
    rw [← Array.length_toList, Array.toList_filter]
   rw [e1, e2, (map_set_perm es.toList j { e0 with key := key, val := val } hjl).filter _ |>.length_eq]
   have e3 : (es.toList.set j e0).Perm (e0 :: es.toList.eraseIdx j) := map_set_perm es.toList j e0 hjl
   have e4 : es.toList.set j e0 = es.toList := by
    apply List.ext_getElem?
    intro i
    rw [List.getElem?_set]
    split
    ·rename_i q; subst q; exact h2.symm
    ·rfl
   rw [e4] at e3
   rw [(e3.filter _).length_eq, List.filter_cons, List.filter_cons]
   split <;> simp
  ·rw [hlist] at hx
   rcases who x hx with rfl | hx
   ·rw [rg_of hnew]
    have := hl1 e0 hmem0
    rw [hk0] at this
    exact this
   ·exact hl1 x hx
  ·obtain ⟨x, hx, rfl⟩ := hl2 x0 hx0
   by_cases q : x.key = key
   ·refine ⟨{ e0 with key := key, val := val }, ?_, ?_⟩
    ·rw [hlist]
     exact List.mem_iff_getElem.2 ⟨j, by simpa using hjl, by simp⟩
    ·rw [rg_of hnew]
     obtain ⟨y, hy⟩ := F.reads x hx
     have m1 := rd_key hy
     rw [q, hkey] at m1
     rw [rg_of hy]
     exact Option.some.inj m1
   ·refine ⟨x, ?_, rfl⟩
    rw [hlist]
    obtain ⟨i, hi, ei⟩ := List.getElem_of_mem hx
    refine List.mem_iff_getElem.2 ⟨i, by simpa using hi, ?_⟩
    rw [List.getElem_set_ne]
    ·exact ei
    ·intro e1
     subst e1
     rw [List.getElem?_eq_getElem hi, ei] at h2
     exact q (by rw [Option.some.inj h2]; exact h3)
  ·exact ⟨rfl, rfl, rfl, by simp [setBlock], fun i _ hi => heap_setBlock_other hb _ (fun e1 => hi (by rw [e1]))⟩
end
/-- the pairs, with a new element at x -/
def setA {α β : Type} [DecidableEq α] (L : List (α × β)) (x : α) (y : β) : List (α × β) := L.map fun p => if p.1 = x then (x, y) else p
theorem setA_keys {α β : Type} [DecidableEq α] (L : List (α × β)) (x : α) (y : β) : (setA L x y).map (·.1) = L.map (·.1) := by
 unfold setA
 rw [List.map_map]
 refine List.map_congr_left (fun p _ => ?_)
 simp only [Function.comp]
 split
 ·rename_i q; exact q.symm
 ·rfl
theorem setA_nd {α β : Type} [DecidableEq α] {L : List (α × β)} (h : L.Pairwise fun p q => p.1 ≠ q.1) (x : α) (y : β) : (setA L x y).Pairwise fun p q => p.1 ≠ q.1 := by
 have h1 : (L.map (·.1)).Pairwise (· ≠ ·) := by rw [List.pairwise_map]; exact h
 rw [← setA_keys L x y, List.pairwise_map] at h1
 exact h1
theorem setA_mem {α β : Type} [DecidableEq α] {L : List (α × β)} {x : α} {y : β} {p : α × β} (h : p ∈ L) : (if p.1 = x then (x, y) else p) ∈ setA L x y := List.mem_map.2 ⟨p, h, rfl⟩
theorem mem_setA {α β : Type} [DecidableEq α] {L : List (α × β)} {x : α} {y : β} {p : α × β} (h : p ∈ setA L x y) : (p = (x, y) ∧ ∃ z, (x, z) ∈ L) ∨ (p.1 ≠ x ∧ p ∈ L) := by
 obtain ⟨q, hq, rfl⟩ := List.mem_map.1 h
 split
 ·rename_i c
  exact .inl ⟨rfl, q.2, by rw [← c]; exact hq⟩
 ·rename_i c
  exact .inr ⟨c, hq⟩
theorem put_set_perm {α β : Type} [DecidableEq α] : ∀ {L : List (α × β)} {x : α} {y : β}, (L.Pairwise fun p q => p.1 ≠ q.1) → (∃ z, (x, z) ∈ L) → (putA L x y).Perm (setA L x y)
 | [], x, y, _, h => absurd h.choose_spec List.not_mem_nil
 | a :: L, x, y, hn, h => by
  obtain ⟨n1, n2⟩ := List.pairwise_cons.1 hn
  by_cases c : a.1 = x
  ·have hno : ∀ p ∈ L, p.1 ≠ x := fun p hp e => n1 p hp (by rw [c, e])
   have e1 : delA (a :: L) x = L := by
    unfold delA
    rw [List.filter_cons, if_neg (by simp [c]), List.filter_eq_self]
    intro p hp
    simpa using hno p hp
   have e2 : setA (a :: L) x y = (x, y) :: L := by
    unfold setA
    rw [List.map_cons, if_pos c]
    congr 1
    exact (List.map_congr_left (fun p hp => if_neg (hno p hp))).trans (List.map_id _)
   unfold putA
   rw [e1, e2]
  ·have hz : ∃ z, (x, z) ∈ L := by
    obtain ⟨z, hz⟩ := h
    rcases List.mem_cons.1 hz with hz | hz
    ·exact absurd (by rw [← hz]) c
    ·exact ⟨z, hz⟩
   have ih := put_set_perm (y := y) n2 hz
   have e1 : delA (a :: L) x = a :: delA L x := by
    unfold delA
    rw [List.filter_cons, if_pos (by simpa using c)]
   have e2 : setA (a :: L) x y = a :: setA L x y := by
    unfold setA
    rw [List.map_cons, if_neg c]
   unfold putA at ih ⊢
   rw [e1, e2]
   exact (List.Perm.swap a (x, y) _).trans (List.Perm.cons a ih)
section ops
variable {P : Program} {k : TypeId} {α β : Type} (w : World) {ops : Array Oper} {rest : List Oper} {o : Oper} {a : Act} {Q : Exit → Act → World → Prop}
/-- 'm[k] = v' in the round of a range over m, k being there -/
theorem wpList_update_ranges [DecidableEq α] (M : MapKd P k α β) (hg : o.guard = none) (m x v : Operand) (t : TypeId) (hop : o.op = Op.mapUpdate t m x v)
  (e : TypeId) (ht : P.underlying t = some (.map k e)) (b r n : Nat) (L done : List (α × β))
  (hm : a.eval m = .map (some b)) (h : M.ranges w b r n L done) (key : α) (val z : β) (hx : a.eval x = M.eK key) (hv : a.eval v = M.eV val) (hin : (key, z) ∈ L)
  (hK : ∀ w', M.ranges w' b r n (setA L key val) (setA done key val) → w'.rangeLeft b r = w.rangeLeft b r → w.grownBy w' (some b) → w.heap.size = w'.heap.size → wpList P ops Q rest (a.put o.dst undef) w') :
  wpList P ops Q (o :: rest) a w := by
 obtain ⟨D, left, cnt, todo, h1, h2, h3, h4, h5⟩ := h
 have hgd := h2.2.1 _ hin
 have hhas : Maps.has D (M.lK key) = true := h2.has_some (getA_mem h2.1 hin)
 obtain ⟨w', hrun, r1, r2, r3⟩ := ranges_store h1 M.law ht (M.key key hgd) (show rdV (M.eV val) = some (.held (M.eV val), []) from rfl) hhas
 refine wpList_plain hg fun K' hK' => ?_
 unfold Oper.wp
 simp [execOp, hop, hm, hx, hv, hrun, Result.andThen]
 refine hK' _ _ (hK w' ⟨_, left, cnt, setA todo key val, r1, (h2.put hgd val).perm (put_set_perm h2.1 ⟨z, hin⟩), ?_, fun p hp hl => ?_, fun p hp => ?_⟩ (by rw [r1.left_eq, h1.left_eq]) r2 r3)
 ·have := h3.map (fun p : α × β => if p.1 = key then (key, val) else p)
  rw [List.map_append] at this
  exact this
 ·obtain ⟨q, hq, rfl⟩ := List.mem_map.1 hp
  have hk : (if q.1 = key then (key, val) else q).1 = q.1 := by
   split
   ·rename_i c; exact c.symm
   ·rfl
  rw [hk] at hl
  exact setA_mem (h4 q hq hl)
 ·obtain ⟨q, hq, rfl⟩ := List.mem_map.1 hp
  have hk : (if q.1 = key then (key, val) else q).1 = q.1 := by
   split
   ·rename_i c; exact c.symm
   ·rfl
  rw [hk]
  exact h5 q hq
end ops
end Go.Proofs.Ytlhodfjdmafapaa
end
section
namespace Go.Proofs.Ytlhodfjdmafapaa
open Go.RowKit Go.Maps Go.Proofs.YtlhodfjdmafapaaW.PrintWords Go.Proofs.YtlhodfjdmafapaaW.PrintLast
set_option linter.unusedVariables false
set_option linter.unusedSimpArgs false
def MU : MapKd Try.prog 22 Sd Int := mk4 (Value.int .u64) (fun a b e => by injection e)
theorem info4q : (Try.prog.info? 22).map (fun i => (i.zero, i.size, i.bytes)) = some (some (.agg #[(.int .i64 0), (.int .i64 0), (.int .i64 0), (.int .i64 0)]), 4, 32) := by kernel_rfl
theorem zeroU (w : World) : (zeroValue 63).run Try.prog w = .ok (.int .u64 0) w := by kernel_rfl
/-- another row, of another kind, is written -/
theorem QL.over {P : Program} {k : TypeId} {α β : Type} {M : MapKd P k α Value} {d : Kd β} (hd : Flat d) {e e' : TypeId} {w w' : World} {b base n : Nat} {ok : Nat → Prop} {Q : α → List β} {L : List (α × Value)} (h : QL M d e w b base ok n Q L) {u : Value} (hty : ∀ j, u.ownBlock = some j → ∃ cells, w.heap[j]? = some (.cells cells e' (0, 0))) (he : e ≠ e') (hg : w.grownBy w' u.ownBlock) : QL M d e w' b base ok n Q L := by
 refine ⟨MapKd.own_kept h.own hg (fun e1 => ?_), fun p hp => ?_, h.none, h.apart⟩
 ·obtain ⟨cells, hc⟩ := hty b e1.symm
  obtain ⟨es, c, hm⟩ := h.is
  rw [hc] at hm; cases hm
 ·refine R_only hd (h.row p hp) (fun j hj => hg.block j (Kd.R_lt (h.row p hp) j hj) (fun e1 => ?_))
  obtain ⟨cells, hc⟩ := hty j e1.symm
  obtain ⟨cells2, hc2⟩ := Kd.R_typed (h.row p hp) j hj
  rw [hc] at hc2
  injection hc2 with hc2; injection hc2 with _ hc2
  exact he hc2.symm
theorem Mtr.over {k : Nat → Int} {bm be base : Nat} {w w' : World} {L : List (Sd × Value)} (h : Mtr k bm be base w L) {e' : TypeId} {u : Value} (hty : ∀ j, u.ownBlock = some j → ∃ cells, w.heap[j]? = some (.cells cells e' (0, 0))) (he : 109 ≠ e') (hm : 104 ≠ e') (hg : w.grownBy w' u.ownBlock) : Mtr k bm be base w' L :=
 ⟨blk_grown h.blk hg (fun e1 => by
  obtain ⟨cells, hc⟩ := hty bm e1.symm
  rw [h.blk] at hc
  injection hc with hc; injection hc with _ hc
  exact hm hc), h.map.over flatE hty he hg, h.sand⟩
theorem Mtr.map_ {k : Nat → Int} {bm be base : Nat} {w w' : World} {L : List (Sd × Value)} (h : Mtr k bm be base w L) {g : Nat} (hm : ∃ es c, w.heap[g]? = some (.map es c)) (hne : g ≠ be) (hg : w.grownBy w' (some g)) : Mtr k bm be base w' L :=
 ⟨blk_grown h.blk hg (fun e1 => by
  obtain ⟨es, c, hm⟩ := hm
  have := h.blk
  rw [Option.some.inj e1, hm] at this
  cases this), h.map.map hg hne hm, h.sand⟩
/-- all blocks of w are as they were, but b and ob -/
structure Fr2 (w w' : World) (b : Nat) (ob : Option Nat) : Prop where
 os : w'.os = w.os
 tape : w'.tape = w.tape
 output : w'.output = w.output
 size : w.heap.size ≤ w'.heap.size
 block : ∀ j, j < w.heap.size → j ≠ b → some j ≠ ob → w'.heap[j]? = w.heap[j]?
theorem Fr2.step {w wr w' : World} {b : Nat} {ob row : Option Nat} (h : Fr2 w wr b ob) (hg : wr.grownBy w' row) (hr : ∀ j, row = some j → j = b ∨ some j = ob ∨ w.heap.size ≤ j) : Fr2 w w' b ob :=
 ⟨hg.os.trans h.os, hg.tape.trans h.tape, hg.output.trans h.output, Nat.le_trans h.size hg.size, fun j hj h1 h2 => (hg.block j (Nat.lt_of_lt_of_le hj h.size) (fun e => by
  rcases hr j e.symm with c | c | c
  ·exact h1 c
  ·exact h2 c
  ·omega)).trans (h.block j hj h1 h2)⟩
theorem Fr2.below {w wr w' : World} {b : Nat} {ob : Option Nat} (h : Fr2 w wr b ob) (hb : Below wr.heap.size wr w') : Fr2 w w' b ob := h.step (grown_below hb none) (fun j hj => by cases hj)
theorem Fr2.to {w0 w w' : World} {base b : Nat} {ob : Option Nat} (h : Fr2 w w' b ob) (h0 : Below base w0 w) (hbs : base ≤ w.heap.size) (hb : base ≤ b) (hob : ∀ j, ob = some j → base ≤ j) : Below base w0 w' :=
 ⟨h.os.trans h0.os, h.tape.trans h0.tape, h.output.trans h0.output, Nat.le_trans h0.size h.size, fun j hj => by
  exact (h.block j (by omega) (by omega) (fun e => by have := hob j e.symm; omega)).trans (h0.block j hj)⟩
/-- what the loops of spans keep -/
structure SBase (k : Nat → Int) (bm be base : Nat) (w : World) (ob : Option Nat) (O : List (Sd × Int)) (L : List (Sd × Value)) (wr : World) : Prop where
 out : MU.own wr w.heap.size O.length O
 mtr : Mtr k bm be base wr L
 fr : Fr2 w wr be ob
structure SList (w : World) (base : Nat) (ob : Option Nat) (lv : Value) (l : List Sd) (wr : World) : Prop where
 row : k4.R 22 wr base (fun _ => True) lv l
 blk : ∀ j, lv.ownBlock = some j → some j = ob ∨ w.heap.size ≤ j
section
variable {k : Nat → Int} {bm be base : Nat} {w wr w' : World} {ob : Option Nat} {O : List (Sd × Int)} {L : List (Sd × Value)} {lv : Value} {l : List Sd}
theorem SBase.step (h : SBase k bm be base w ob O L wr) (hb : Below wr.heap.size wr w') : SBase k bm be base w ob O L w' := ⟨MapKd.own_below h.out hb, h.mtr.step hb, h.fr.below hb⟩
theorem SList.step (h : SList w base ob lv l wr) (hb : Below wr.heap.size wr w') : SList w base ob lv l w' := ⟨Kd.R_below h.row hb, h.blk⟩
/-- the list is written -/
theorem SBase.list (h : SBase k bm be base w ob O L wr) (hl : SList w base ob lv l wr) (hg : wr.grownBy w' lv.ownBlock) : SBase k bm be base w ob O L w' := by
 refine ⟨MapKd.own_kept h.out hg (fun e => ?_), h.mtr.over (Kd.R_typed hl.row) (by decide) (by decide) hg, h.fr.step hg (fun j hj => .inr (hl.blk j hj))⟩
 obtain ⟨cells, hc⟩ := Kd.R_typed hl.row _ e.symm
 obtain ⟨es, c, hm⟩ := MapKd.own_is h.out
 rw [hc] at hm; cases hm
/-- the map of bits is written -/
theorem SBase.put (h : SBase k bm be base w ob O L wr) (hbe : be < w.heap.size) {O' : List (Sd × Int)} {n : Nat} (ho : MU.own w' w.heap.size n O') (hg : wr.grownBy w' (some w.heap.size)) : SBase k bm be base w ob O' L w' :=
 ⟨MapKd.own_tight ho, h.mtr.map_ (MapKd.own_is h.out) (by omega) hg, h.fr.step hg (fun j hj => .inr (.inr (by have := Option.some.inj hj; omega)))⟩
theorem SList.map_ (h : SList w base ob lv l wr) {g : Nat} (hm : ∃ es c, wr.heap[g]? = some (.map es c)) (hg : wr.grownBy w' (some g)) : SList w base ob lv l w' := ⟨R_map flat4 h.row hm hg, h.blk⟩
/-- the meter is asked -/
theorem SBase.ask (h : SBase k bm be base w ob O L wr) (hbe : be < w.heap.size) {L' : List (Sd × Value)} (hm : Mtr k bm be base w' L') (hg : wr.grownBy w' (some be)) : SBase k bm be base w ob O L' w' :=
 ⟨MapKd.own_kept h.out hg (fun e => by have := Option.some.inj e; omega), hm, h.fr.step hg (fun j hj => .inl (Option.some.inj hj).symm)⟩
end
theorem ranges_iter {P : Program} {k : TypeId} {α β : Type} {M : MapKd P k α β} {w : World} {b r n : Nat} {L done : List (α × β)} (h : M.ranges w b r n L done) : ∃ a c d e, w.heap[r]? = some (.mapIter a c d e) := by
 obtain ⟨D, left, cnt, todo, ⟨es, clock, since, seen, c0, hb, F, hs, hD, hr, rest⟩, h2⟩ := h
 exact ⟨_, _, _, _, hr⟩
theorem Mtr.iter {k : Nat → Int} {bm be base : Nat} {w w' : World} {L : List (Sd × Value)} (h : Mtr k bm be base w L) {r : Nat} (hr : ∃ a c d e, w.heap[r]? = some (.mapIter a c d e)) (hg : w.grownBy w' (some r)) : Mtr k bm be base w' L := by
 obtain ⟨a, c, d, e, hr⟩ := hr
 refine ⟨blk_grown h.blk hg (fun e1 => ?_), ⟨MapKd.own_kept h.map.own hg (fun e1 => ?_), fun p hp => R_only flatE (h.map.row p hp) (fun j hj => hg.block j (Kd.R_lt (h.map.row p hp) j hj) (fun e1 => ?_)), h.map.none, h.map.apart⟩, h.sand⟩
 ·have := h.blk
  rw [Option.some.inj e1, hr] at this; cases this
 ·obtain ⟨es, c, hm⟩ := h.map.is
  rw [Option.some.inj e1, hr] at hm; cases hm
 ·obtain ⟨cells, hc⟩ := Kd.R_typed (h.map.row p hp) j hj
  rw [Option.some.inj e1, hr] at hc; cases hc
theorem bit_read {u s : Nat} (hu : u < 18446744073709551616) : (bits BinOp.and IntKind.u64 ((u : Int) / 2 ^ s) 1 == 1) = decide (u / 2 ^ s % 2 = 1) := by
 have e : ((u : Int) / 2 ^ s) = ((u / 2 ^ s : Nat) : Int) := by
  rw [Int.natCast_ediv, Int.natCast_pow]
  rfl
 have h := bits_and_u64_nat (u / 2 ^ s) 1 (Nat.lt_of_le_of_lt (Nat.div_le_self _ _) hu) (by decide)
 rw [e, show (1 : Int) = ((1 : Nat) : Int) from rfl, h, Nat.and_one_is_mod]
 by_cases c : u / 2 ^ s % 2 = 1
 ·rw [c]; rfl
 ·rw [decide_eq_false c]
  have : u / 2 ^ s % 2 = 0 := by omega
  rw [this]; rfl
theorem two_pow_lt {t : Nat} (h : t ≤ 60) : 2 ^ t * 2 ≤ 2305843009213693952 := by
 have : 2 ^ t ≤ 2 ^ 60 := Nat.pow_le_pow_right (by omega) h
 have e : (2 : Nat) ^ 60 = 1152921504606846976 := by decide
 omega
theorem bit_or {v t : Nat} (ht : t ≤ 60) (hv : v < 2 ^ t) : bits BinOp.or IntKind.u64 (v : Int) ((2 ^ t : Nat) : Int) = ((v + 2 ^ t : Nat) : Int) ∧ bits BinOp.or IntKind.u64 ((v + 2 ^ t : Nat) : Int) ((2 ^ t : Nat) : Int) = ((v + 2 ^ t : Nat) : Int) := by
 have h2 := two_pow_lt ht
 have e : v ||| 2 ^ t = v + 2 ^ t := by
  have h := Nat.two_pow_add_eq_or_of_lt hv 1
  rw [Nat.mul_one] at h
  rw [Nat.or_comm, ← h, Nat.add_comm]
 constructor
 ·rw [bits_or_u64_nat v (2 ^ t) (by omega) (by omega), e]
 ·rw [bits_or_u64_nat (v + 2 ^ t) (2 ^ t) (by omega) (by omega), ← e, Nat.or_assoc, Nat.or_self]
theorem look_own1 {P : Program} {k : TypeId} {α β : Type} {M : MapKd P k α β} {w : World} {b n : Nat} {L : List (α × β)} (h : M.own w b n L) {t e : TypeId} (ht : P.underlying t = some (.map k e)) {z : β} (hz : ∀ u : World, (zeroValue e).run P u = .ok (M.eV z) u) {key : α} (hg : M.good key) (w' : World) (hb : Below w.heap.size w w') :
  (Instr.lookup t (.map (some b)) (M.eK key) false).run P w' = .ok (M.eV ((getA L key).getD z)) w' := by
 obtain ⟨D, h1, h2⟩ := MapKd.own_below h hb
 obtain ⟨v, ps, hrun, hv⟩ := h1.lookup M.law ht (hz w') (show rdV (M.eV z) = some (.held (M.eV z), []) from rfl) (M.key key hg)
 have hv' : v = M.eV ((getA L key).getD z) := by
  simp only [rdV, Option.some.injEq, Prod.mk.injEq] at hv
  cases e1 : getA L key with
  | some y => rw [h2.at_some e1] at hv; simpa using hv.1
  | none => rw [Maps.atKey_of_not_has (h2.has_none hg e1)] at hv; simpa using hv.1
 rw [hv'] at hrun
 exact hrun
theorem take_any {α : Type} {l : List α} {f : α → Bool} {j : Nat} {e : α} (h : l[j]? = some e) : (l.take (j + 1)).any f = ((l.take j).any f || f e) := by
 rw [List.take_add_one, h, List.any_append]
 simp
theorem wrap_pow {t : Nat} (ht : t ≤ 60) : IntKind.u64.wrap (2 ^ t) = ((2 ^ t : Nat) : Int) := by
 have h2 := two_pow_lt ht
 have e : ((2 : Int) ^ t) = ((2 ^ t : Nat) : Int) := by rw [Int.natCast_pow]; rfl
 rw [e, IntKind.wrap_u64]
 omega
theorem SDone.setA {k : Nat → Int} {x : Sd} {O : List (Sd × Int)} (h : SDone k x O) {y : Sd} {v : Int} (hy : Sand k (fn4 y)) : SDone k x (setA O y v) := by
 have hk : ∀ z, keyIn O z → keyIn (Go.Proofs.Ytlhodfjdmafapaa.setA O y v) z := fun z ⟨u, hu⟩ => by
  have := setA_mem (x := y) (y := v) hu
  by_cases c : z = y
  ·rw [if_pos c] at this; rw [c]; exact ⟨_, this⟩
  ·rw [if_neg c] at this; exact ⟨_, this⟩
 have hk2 : ∀ z, keyIn (Go.Proofs.Ytlhodfjdmafapaa.setA O y v) z → keyIn O z := fun z ⟨u, hu⟩ => by
  rcases mem_setA hu with ⟨e1, w, hw⟩ | ⟨_, h2⟩
  ·rw [(Prod.mk.inj e1).1]; exact ⟨w, hw⟩
  ·exact ⟨u, h2⟩
 exact ⟨setA_nd h.nd y v, fun p hp => by
  rcases mem_setA hp with ⟨e1, _⟩ | ⟨_, h2⟩
  ·rw [e1]; exact hy
  ·exact h.sand p h2, hk _ h.start, fun z hz e he => hk _ (h.next z (hk2 z hz) e he)⟩
theorem bv_step {k : Nat → Int} {t : Nat} (h : 1 ≤ t) (y : Sd) : bvN k t y = bvN k (t - 1) y + if (edgesL k y).any (hitB (bvN k (t - 1)) t) = true then 2 ^ t else 0 := by
 cases t with
 | zero => omega
 | succ t => rfl
theorem put_none (a : Act) (v : Value) : a.put none v = a := rfl
def SpanPost (k : Nat → Int) (bm be base : Nat) (x : Sd) (T : Nat) (ob : Option Nat) (w : World) (e : Ending) (w' : World) : Prop :=
 ∃ (O : List (Sd × Int)) (L : List (Sd × Value)), e = .returned (.map (some w.heap.size)) ∧ MU.own w' w.heap.size O.length O ∧ SDone k x O ∧ (∀ p ∈ O, p.2 = (bvN k T p.1 : Int)) ∧ Fr2 w w' be ob
set_option maxRecDepth 100000 in
set_option maxHeartbeats 4000000 in
theorem spans_any (k : Nat → Int) (bm be base : Nat) (x : Sd) (T : Nat) (hT : T ≤ 60) (lv : Value) (L : List (Sd × Value)) (hk : isKitB k = true) (hx : Sand k (fn4 x)) (w0 w : World) (hm : Mtr k bm be base w L) (hw0 : Below base w0 w) (hbase : base ≤ w.heap.size) (hl : k4.R 22 w base (fun _ => True) lv [x]) (hbe : base ≤ be) :
  Calls Try.prog 56 #[.pointer (some ⟨bm, 0, none⟩), lv, .int .i64 T] w (SpanPost k bm be base x T lv.ownBlock w) := by
 have HM := Aside0.mk hm
 have HX := Aside0.mk hx
 have HKB := Aside0.mk hk
 have HLV := Aside0.mk hl
 have HBS := Aside0.mk hbase
 have HBE := Aside0.mk (show be < w.heap.size from hm.map.lt)
 obtain ⟨A0, c0, rfl⟩ := Kd.R_slice hl
 clear hm hx hk hl hw0 hbase hbe
 have hmm := @run_makeMap Try.prog
 go_enter Try.func56, Try.ntmps56
 go_wp2_with fail
 have BA : Below w.heap.size w (w.alloc (.map #[] 0)) := below_alloc (Below.refl _ _) _
 have HS0 := Aside0.mk (show SBase k bm be base w (Value.slice A0 [x].length c0).ownBlock [] L (w.alloc (.map #[] 0)) from ⟨MapKd.own_made MU w, HM.out.step BA, (show Fr2 w w be _ from ⟨rfl, rfl, rfl, Nat.le_refl _, fun _ _ _ _ => rfl⟩).below BA⟩)
 have HL0 := Aside0.mk (show SList w base (Value.slice A0 [x].length c0).ownBlock (Value.slice A0 [x].length c0) [x] (w.alloc (.map #[] 0)) from ⟨Kd.R_below HLV.out BA, fun j hj => .inl hj.symm⟩)
 obtain ⟨ob, hob⟩ : ∃ ob, ob = (Value.slice A0 [x].length c0).ownBlock := ⟨_, rfl⟩
 rw [← hob] at HS0 HL0
 have HOB := Aside0.mk hob
 clear BA hob
 go_loopw [1, 8] (fun v1 v8 wr => ∃ (i : Nat) (lv : Value) (l : List Sd) (O : List (Sd × Int)) (L : List (Sd × Value)), v1 = lv ∧ v8 = .int .i64 i ∧ Aside0 (SInv k x O l i x []) ∧ Aside0 (i ≤ l.length) ∧ Aside0 (SBase k bm be base w ob O L wr) ∧ Aside0 (SList w base ob lv l wr)) (fun _ v8 _ => 20000000 - (intOf v8).toNat)
 case atStart => exact ⟨0, _, [x], [], L, rfl, rfl, ⟨SInv.begin HX.out⟩, ⟨Nat.zero_le _⟩, HS0, HL0⟩
 case round =>
  clear HS0 HL0
  obtain ⟨i, lv, l, O, L, rfl, rfl, HI, HIL, HS, HL⟩ := hrel
  obtain ⟨wz, rfl⟩ : ∃ wz : World, wz = wr := ⟨_, rfl⟩
  have hlen := few31s (kit_bounds HKB.out) HI.out.nd (fun p hp => (HI.out.one p hp).2)
  have hll : l.length ≤ 15000000 := by
   have := HI.out.len
   simp only [List.length_nil] at this
   omega
  have hil := HIL.out
  obtain ⟨A, c, rfl⟩ := Kd.R_slice HL.out.row
  by_cases ci : i < l.length
  ·have ci0 : decide (i < l.length) = true := decide_eq_true ci
   have ci1 : decide ((i : Int) < (l.length : Int)) = true := decide_eq_true (by omega)
   obtain ⟨⟨s0, s1, s2, s3⟩, hs⟩ : ∃ s, l[i]? = some s := ⟨_, List.getElem?_eq_getElem ci⟩
   obtain ⟨ad, rfl, h0, h1, h2, h3⟩ := at_k4 (Kd.R_reads' HL.out.row).2.2 i _ hs
   have HSS := Aside0.mk hs
   have HSD := Aside0.mk (HI.out.list _ (List.mem_of_getElem? hs))
   have HGS := Aside0.mk (sand_good HSD.out)
   have p0 : (0 : Int) ≤ (i : Int) := by omega
   have p1 : (i : Int) < (l.length : Int) := by omega
   clear hs
   cases hg : getA O (s0, s1, s2, s3) with
   | some t0 =>
    have HG := Aside0.mk hg
    clear hg
    go_wp2_with (first | (at_lookup; refine wpList_lookup_ok_some _ MU rfl _ _ 64 rfl 63 Try.underlying64 0 (zeroU _) w.heap.size O.length O rfl (MapKd.own_below HS.out.out (by repeat (first | exact Below.refl _ _ | apply below_alloc | apply pw_below_drewN))) (s0, s1, s2, s3) rfl HGS.out t0 HG.out (.int .u64 t0) rfl ?_) | fail)
    exact ⟨⟨i + 1, _, l, O, L, rfl, by go_num, ⟨HI.out.skip HSS.out ⟨t0, getA_some HG.out⟩⟩, ⟨by omega⟩, HS, HL⟩, by simp only [intOf]; omega⟩
   | none =>
    have HG := Aside0.mk hg
    clear hg
    have HML := Aside0.mk (show O.length < maxLen from by unfold maxLen; omega)
    go_wp2_with (first | (at_lookup; refine wpList_lookup_ok_none _ MU rfl _ _ 64 rfl 63 Try.underlying64 0 (zeroU _) w.heap.size O.length O rfl (MapKd.own_below HS.out.out (by repeat (first | exact Below.refl _ _ | apply below_alloc | apply pw_below_drewN))) (s0, s1, s2, s3) rfl HGS.out HG.out (.int .u64 0) rfl ?_) | (at_mapUpdate; refine wpList_update_om _ MU rfl _ _ _ 64 rfl 63 Try.underlying64 w.heap.size O.length O rfl HS.out.out HML.out (s0, s1, s2, s3) 1 rfl rfl HGS.out ?_; intro w5 hown5 hgrow5 hsz5; have HS5 := Aside0.mk (HS.out.put HBE.out hown5 hgrow5); have HL5 := Aside0.mk (HL.out.map_ (MapKd.own_is HS.out.out) hgrow5); obtain ⟨ad', e', h0', h1', h2', h3'⟩ := at_k4 (Kd.R_reads' HL5.out.row).2.2 i _ HSS.out; obtain rfl := Option.some.inj e') | fail)
    have HTK := Aside0.mk (HI.out.take HSS.out HG.out)
    clear hown5 hgrow5 hsz5 HS HL HI
    refine (from_any k bm be base s0 s1 s2 s3 L HKB.out HSD.out w5 HS5.out.mtr (Nat.le_trans HBS.out HS5.out.fr.size)).mono ?_
    rintro e w6 ⟨v, L', rfl, hm6, hv6, hs6, hg6⟩
    have HS6 := Aside0.mk (HS5.out.ask HBE.out hm6 hg6)
    have HL6 := Aside0.mk (HL5.out.map_ HS5.out.mtr.map.is hg6)
    have HQE := Aside0.mk (show qE k L' (s0, s1, s2, s3) = edgesL k (s0, s1, s2, s3) from qE_some hs6)
    have hR6 := hm6.map.at hv6
    rw [HQE.out] at hR6
    obtain ⟨Ae, ce, rfl⟩ := Kd.R_slice hR6
    have HVE := Aside0.mk hv6
    have hel := edges_len k (s0, s1, s2, s3)
    obtain ⟨O1, hO1⟩ : ∃ O1, O1 = putA O (s0, s1, s2, s3) (1 : Int) := ⟨_, rfl⟩
    rw [← hO1] at HS6 HTK
    clear hm6 hv6 hs6 hg6 hR6 HS5 HL5 h0 h1 h2 h3 h0' h1' h2' h3' p1 ci0 ci1 hO1
    go_wp2_with fail
    go_loopw [1, 49] (fun v1 v49 wr => ∃ (j : Nat) (lv : Value) (l : List Sd), v1 = lv ∧ v49 = .int .i64 j ∧ Aside0 (SInv k x O1 l (i + 1) (s0, s1, s2, s3) ((edgesL k (s0, s1, s2, s3)).drop j)) ∧ Aside0 (i + 1 ≤ l.length) ∧ Aside0 (j ≤ (edgesL k (s0, s1, s2, s3)).length) ∧ Aside0 (SBase k bm be base w ob O1 L' wr) ∧ Aside0 (SList w base ob lv l wr)) (fun _ v49 _ => 17 - (intOf v49).toNat)
    case atStart => exact ⟨0, _, l, rfl, rfl, ⟨by rw [List.drop_zero]; exact HTK.out⟩, ⟨by omega⟩, ⟨Nat.zero_le _⟩, HS6, HL6⟩
    case round =>
     have hi15 : i ≤ 15000000 := by omega
     clear HS6 HL6 HTK hlen hll hil ci HSS HIL HG HML
     obtain ⟨j, lv, l, rfl, rfl, HI, HIL, HJ, HS, HL⟩ := hrel
     obtain ⟨wy, rfl⟩ : ∃ wy : World, wy = wr := ⟨_, rfl⟩
     have hlen := few31s (kit_bounds HKB.out) HI.out.nd (fun p hp => (HI.out.one p hp).2)
     have hll : l.length ≤ 15000000 := by
      have := HI.out.len
      omega
     have hjl := HJ.out
     obtain ⟨A, c, rfl⟩ := Kd.R_slice HL.out.row
     by_cases cj : j < (edgesL k (s0, s1, s2, s3)).length
     ·have cj0 : decide (j < (edgesL k (s0, s1, s2, s3)).length) = true := decide_eq_true cj
      have cj1 : decide ((j : Int) < ((edgesL k (s0, s1, s2, s3)).length : Int)) = true := decide_eq_true (by omega)
      have hR := HS.out.mtr.map.at HVE.out
      rw [HQE.out] at hR
      obtain ⟨⟨⟨t0, t1, t2, t3⟩, d⟩, he⟩ : ∃ e, (edgesL k (s0, s1, s2, s3))[j]? = some e := ⟨_, List.getElem?_eq_getElem cj⟩
      obtain ⟨ae, rfl, h0, h1, h2, h3, h4⟩ := at_kE (Kd.R_reads' hR).2.2 j _ he
      have HEM := Aside0.mk (edge_ok HSD.out (List.mem_of_getElem? he))
      have HGT := Aside0.mk (sand_good HEM.out.1)
      have hdrop : (edgesL k (s0, s1, s2, s3)).drop j = ((t0, t1, t2, t3), d) :: (edgesL k (s0, s1, s2, s3)).drop (j + 1) := by
       rw [List.drop_eq_getElem_cons cj]
       congr 1
       rw [List.getElem?_eq_getElem cj] at he
       exact Option.some.inj he
      have HI' := Aside0.mk (hdrop ▸ HI.out : SInv k x O1 l (i + 1) (s0, s1, s2, s3) (((t0, t1, t2, t3), d) :: (edgesL k (s0, s1, s2, s3)).drop (j + 1)))
      have p0 : (0 : Int) ≤ (j : Int) := by omega
      have p1 : (j : Int) < ((edgesL k (s0, s1, s2, s3)).length : Int) := by omega
      have BX : Below wy.heap.size wy (wy.alloc (.cells #[.int .i64 t0, .int .i64 t1, .int .i64 t2, .int .i64 t3, .int .i64 d] 109 (0, 0))) := below_alloc (Below.refl _ _) _
      have HSB := Aside0.mk (HS.out.step BX)
      have HLB := Aside0.mk (HL.out.step BX)
      clear hR he hdrop HI BX
      cases hg : getA O1 (t0, t1, t2, t3) with
      | some u0 =>
       have HG := Aside0.mk hg
       clear hg
       go_wp2_with (first | (at_lookup; refine wpList_lookup_ok_some _ MU rfl _ _ 64 rfl 63 Try.underlying64 0 (zeroU _) w.heap.size O1.length O1 rfl (MapKd.own_below HS.out.out (by repeat (first | exact Below.refl _ _ | apply below_alloc | apply pw_below_drewN))) (t0, t1, t2, t3) rfl HGT.out u0 HG.out (.int .u64 u0) rfl ?_) | fail)
       exact ⟨⟨j + 1, _, l, rfl, by go_num, ⟨HI'.out.drop ⟨u0, getA_some HG.out⟩⟩, HIL, ⟨by omega⟩, HSB, HLB⟩, by simp only [intOf]; omega⟩
      | none =>
       have HG := Aside0.mk hg
       clear hg
       have HPU := Aside0.mk (HI'.out.push HIL.out)
       have HLQ := Aside0.mk (show (l.length + 1) * 32 ≤ 140737488355328 from by omega)
       have HSZ := Aside0.mk (show base ≤ (wy.alloc (.cells #[.int .i64 t0, .int .i64 t1, .int .i64 t2, .int .i64 t3, .int .i64 d] 109 (0, 0))).heap.size from Nat.le_trans HBS.out HSB.out.fr.size)
       go_wp2_with (first | (at_lookup; refine wpList_lookup_ok_none _ MU rfl _ _ 64 rfl 63 Try.underlying64 0 (zeroU _) w.heap.size O1.length O1 rfl (MapKd.own_below HS.out.out (by repeat (first | exact Below.refl _ _ | apply below_alloc | apply pw_below_drewN))) (t0, t1, t2, t3) rfl HGT.out HG.out (.int .u64 0) rfl ?_) | (at_builtin; refine Kd.R_append k4 (w0 := wy.alloc (.cells #[.int .i64 t0, .int .i64 t1, .int .i64 t2, .int .i64 t3, .int .i64 d] 109 (0, 0))) base rfl (.tmp 62) (.tmp 65) 43 22 (.agg #[(.int .i64 0), (.int .i64 0), (.int .i64 0), (.int .i64 0)]) 32 rfl Try.underlying43 info4q rfl (by decide) (by decide) _ l (t0, t1, t2, t3) [.int .i64 t0, .int .i64 t1, .int .i64 t2, .int .i64 t3] (fun _ => True) (fun _ => False) rfl (by first | (go_simp; done) | (go_simp; rfl)) (k4_mkM _ _ _ _) (fun _ h => h.elim) (fun _ _ => trivial) HLB.out.row (Below.refl _ _) HSZ.out HLQ.out ?_; intro v4 w4 hO4 hB4 hg4 hat4) | fail)
       have HS4 := Aside0.mk (HSB.out.list HLB.out hg4)
       refine ⟨⟨j + 1, v4, l ++ [(t0, t1, t2, t3)], rfl, by go_num, HPU, ⟨by rw [List.length_append]; have := HIL.out; omega⟩, ⟨by omega⟩, HS4, ⟨hO4, fun q hq => ?_⟩⟩, by simp only [intOf]; omega⟩
       rcases hat4 with hat | ⟨b, hb, hle⟩
       ·exact HLB.out.blk q (hat ▸ hq)
       ·rw [hb] at hq
        have h1 := Option.some.inj hq
        have h2 := HSB.out.fr.size
        exact .inr (by omega)
     ·have cj0 : decide (j < (edgesL k (s0, s1, s2, s3)).length) = false := decide_eq_false cj
      have cj1 : decide ((j : Int) < ((edgesL k (s0, s1, s2, s3)).length : Int)) = false := decide_eq_false (by omega)
      have HE0 := Aside0.mk (show (edgesL k (s0, s1, s2, s3)).drop j = [] from List.drop_eq_nil_of_le (by omega))
      go_wp2_with fail
      exact ⟨⟨i + 1, _, l, O1, L', rfl, by go_num, ⟨(show SInv k x O1 l (i + 1) (s0, s1, s2, s3) [] from HE0.out ▸ HI.out).any x⟩, HIL, HS, HL⟩, by simp only [intOf]; have := HIL.out; omega⟩
  ·have ci0 : decide (i < l.length) = false := decide_eq_false ci
   have ci1 : decide ((i : Int) < (l.length : Int)) = false := decide_eq_false (by omega)
   have HD := Aside0.mk (HI.out.finish (by omega))
   have HV1 := Aside0.mk (show ∀ p ∈ O, p.2 = (bvN k (1 - 1) p.1 : Int) from fun p hp => by rw [(HI.out.one p hp).1]; rfl)
   clear HI HIL HL hlen hll hil ci
   go_wp2_with fail
   go_loopw [15] (fun v15 wr => ∃ (t1 : Nat) (O : List (Sd × Int)) (L : List (Sd × Value)), v15 = .int .i64 (t1 : Nat) ∧ Aside0 (1 ≤ t1 ∧ t1 ≤ T + 1) ∧ Aside0 (SDone k x O) ∧ Aside0 (∀ p ∈ O, p.2 = (bvN k (t1 - 1) p.1 : Int)) ∧ Aside0 (SBase k bm be base w ob O L wr)) (fun v15 _ => 62 - (intOf v15).toNat)
   case atStart => exact ⟨1, O, L, rfl, ⟨by omega⟩, HD, HV1, HS⟩
   case round =>
    clear HS HD HV1 ci0 ci1
    obtain ⟨t1, O, L, rfl, HT1, HD, HV, HS⟩ := hrel
    obtain ⟨wz, rfl⟩ : ∃ wz : World, wz = wr := ⟨_, rfl⟩
    have ht1 := HT1.out
    by_cases ct : t1 ≤ T
    ·have ct0 : decide (t1 ≤ T) = true := decide_eq_true ct
     have ct1 : decide ((t1 : Int) ≤ (T : Int)) = true := decide_eq_true (by omega)
     go_wp2_with (first | (at_range; refine wpList_range_om _ MU rfl _ 64 rfl 63 Try.underlying64 w.heap.size O.length O rfl HS.out.out ?_; intro w2 hrg2 hgrow2 hsz2) | fail)
     have BX : Below wz.heap.size wz w2 := (Below.refl _ _).grown hgrow2 (by omega) (fun q hq => by cases hq)
     have HM2 := Aside0.mk (HS.out.mtr.step BX)
     have HF2 := Aside0.mk (HS.out.fr.below BX)
     have HR2 := Aside0.mk hrg2
     have HZ := Aside0.mk (show w.heap.size < wz.heap.size from MapKd.own_lt HS.out.out)
     clear hrg2 hgrow2 hsz2 BX
     go_frame
     go_loopw [75] (fun v75 wr => ∃ (done O' : List (Sd × Int)) (L' : List (Sd × Value)), Aside0 (MU.ranges wr w.heap.size wz.heap.size O'.length O' done) ∧ Aside0 (SDone k x O') ∧ Aside0 (∀ p ∈ O', (p ∈ done ∧ p.2 = (bvN k t1 p.1 : Int)) ∨ (p ∉ done ∧ p.2 = (bvN k (t1 - 1) p.1 : Int))) ∧ Aside0 (Mtr k bm be base wr L') ∧ Aside0 (Fr2 w wr be ob) ∧ Aside0 (wz.heap.size < wr.heap.size)) (fun _ wr => wr.rangeLeft w.heap.size wz.heap.size)
     case atStart => exact ⟨[], O, L, HR2, HD, ⟨fun p hp => .inr ⟨List.not_mem_nil, HV.out p hp⟩⟩, HM2, HF2, ⟨MapKd.ranges_lt HR2.out⟩⟩
     case round =>
      clear HR2 HD HV HM2 HF2 HS
      obtain ⟨done, O', L', HR, HD, HV, HM, HF, HZZ⟩ := hrel
      obtain ⟨wy, rfl⟩ : ∃ wy : World, wy = wr := ⟨_, rfl⟩
      go_wp2_with (first | (at_next; refine wpList_next_om _ MU rfl _ rfl w.heap.size wz.heap.size O'.length O' done rfl HR.out ?_ ?_) | fail)
      ·intro hperm
       have HOW := Aside0.mk (MapKd.own_tight (MapKd.ranges_own HR.out))
       go_wp2_with fail
       exact ⟨⟨t1 + 1, O', L', by go_num, ⟨by omega⟩, HD, ⟨fun p hp => by
        rcases HV.out p hp with ⟨_, h⟩ | ⟨h, _⟩
        ·exact h
        ·exact absurd (hperm.mem_iff.2 hp) h⟩, ⟨HOW.out, HM.out, HF.out⟩⟩, by simp only [intOf]; omega⟩
      ·intro y0 y1 y2 y3 v w3 hxy hnd hrg3 hlt3 hgrow3 hsz3 hen3
       have hen4 : (Instr.entry (.pointer (some ⟨wz.heap.size, 0, none⟩))).run Try.prog w3 = .ok (.tuple #[.agg #[.int .i64 y0, .int .i64 y1, .int .i64 y2, .int .i64 y3], .int .u64 v]) w3 := hen3
       have hEK : MU.eK (y0, y1, y2, y3) = .agg #[.int .i64 y0, .int .i64 y1, .int .i64 y2, .int .i64 y3] := rfl
       have hEV : MU.eV v = .int .u64 v := rfl
       simp only [hEK, hEV]
       clear hEK hEV
       obtain rfl : v = (bvN k (t1 - 1) (y0, y1, y2, y3) : Int) := by
        rcases HV.out _ hxy with ⟨h, _⟩ | ⟨_, h⟩
        ·exact absurd h hnd
        ·exact h
       have HSY := Aside0.mk (HD.out.sand _ hxy)
       have HXY := Aside0.mk hxy
       have HND := Aside0.mk hnd
       have HR3 := Aside0.mk hrg3
       have HLT := Aside0.mk hlt3
       have HM3 := Aside0.mk (HM.out.iter (ranges_iter HR.out) hgrow3)
       have HF3 := Aside0.mk (HF.out.step hgrow3 (fun q hq => .inr (.inr (by have := Option.some.inj hq; have := HZ.out; omega))))
       have HZ3 := Aside0.mk (show wz.heap.size < w3.heap.size from by have := HZZ.out; omega)
       clear hxy hnd hrg3 hlt3 hgrow3 hsz3 hen3 HM HF HZZ HR
       obtain ⟨vN, hvN⟩ : ∃ vN, vN = bvN k (t1 - 1) (y0, y1, y2, y3) := ⟨_, rfl⟩
       rw [← hvN] at hen4 HXY HND HR3 ⊢
       have HVN := Aside0.mk hvN
       clear hvN
       go_wp2_with fail
       have BX : Below w3.heap.size w3 (w3.alloc (.cells #[.int .i64 y0, .int .i64 y1, .int .i64 y2, .int .i64 y3] 22 (0, 0))) := below_alloc (Below.refl _ _) _
       refine (from_any k bm be base y0 y1 y2 y3 L' HKB.out HSY.out (w3.alloc (.cells #[.int .i64 y0, .int .i64 y1, .int .i64 y2, .int .i64 y3] 22 (0, 0))) (HM3.out.step BX) (Nat.le_trans HBS.out (HF3.out.below BX).size)).mono ?_
       rintro e w5 ⟨ve, L5, rfl, hm5, hv5, hs5, hg5⟩
       have HM5 := Aside0.mk hm5
       have HV5 := Aside0.mk hv5
       have HQE := Aside0.mk (show qE k L5 (y0, y1, y2, y3) = edgesL k (y0, y1, y2, y3) from qE_some hs5)
       have HF5 := Aside0.mk ((HF3.out.below BX).step hg5 (fun j hj => .inl (Option.some.inj hj).symm))
       have HR5 := Aside0.mk (MapKd.ranges_kept (MapKd.ranges_below HR3.out BX) hg5 (fun e => by have := Option.some.inj e; have := HBE.out; omega) (fun e => by have := Option.some.inj e; have := HBE.out; have := HZ.out; omega))
       have HLT5 := Aside0.mk (show w5.rangeLeft w.heap.size wz.heap.size < wy.rangeLeft w.heap.size wz.heap.size from by
        have hb5 := hg5.block w.heap.size (Nat.lt_of_lt_of_le (MapKd.own_lt (MapKd.ranges_own HR3.out)) BX.size) (fun e => by have := Option.some.inj e; have := HBE.out; omega)
        have hr5 := hg5.block wz.heap.size (Nat.lt_of_lt_of_le (MapKd.ranges_lt HR3.out) BX.size) (fun e => by have := Option.some.inj e; have := HBE.out; have := HZ.out; omega)
        rw [MapKd.ranges_left HR3.out (hb5.trans (BX.block _ (MapKd.own_lt (MapKd.ranges_own HR3.out)))) (hr5.trans (BX.block _ (MapKd.ranges_lt HR3.out)))]
        exact HLT.out)
       have HY5 := Aside0.mk (show w5.heap[w3.heap.size]? = some (.cells #[.int .i64 y0, .int .i64 y1, .int .i64 y2, .int .i64 y3] 22 (0, 0)) from blk_grown (heap_alloc_new w3 (.cells #[.int .i64 y0, .int .i64 y1, .int .i64 y2, .int .i64 y3] 22 (0, 0))) hg5 (fun e => by have := Option.some.inj e; have := HBE.out; have := HZ.out; have := HZ3.out; omega))
       have hR5 := hm5.map.at hv5
       rw [HQE.out] at hR5
       obtain ⟨Ae, ce, rfl⟩ := Kd.R_slice hR5
       have hel := edges_len k (y0, y1, y2, y3)
       have hv60 : vN < 2 ^ t1 := by
        have := bv_lt k (t1 - 1) (y0, y1, y2, y3)
        rw [← HVN.out, show t1 - 1 + 1 = t1 by omega] at this
        exact this
       clear hm5 hv5 hs5 hg5 hR5 BX HR3 HM3 HF3 HLT
       go_wp2_with fail
       go_loopw [17, 84] (fun v17 v84 wr => ∃ (j cu : Nat), v17 = .int .u64 (cu : Int) ∧ v84 = .int .i64 j ∧ Aside0 (cu = vN + (if ((edgesL k (y0, y1, y2, y3)).take j).any (hitB (bvN k (t1 - 1)) t1) = true then 2 ^ t1 else 0)) ∧ Aside0 (j ≤ (edgesL k (y0, y1, y2, y3)).length) ∧ Aside0 (Below w5.heap.size w5 wr)) (fun _ v84 _ => 17 - (intOf v84).toNat)
       case atStart => exact ⟨0, vN, rfl, rfl, ⟨by simp⟩, ⟨Nat.zero_le _⟩, ⟨Below.refl _ _⟩⟩
       case round =>
        obtain ⟨j, cu, rfl, rfl, HCU, HJ, HBr⟩ := hrel
        obtain ⟨wx, rfl⟩ : ∃ wx : World, wx = wr := ⟨_, rfl⟩
        have hjl := HJ.out
        by_cases cj : j < (edgesL k (y0, y1, y2, y3)).length
        ·have cj0 : decide (j < (edgesL k (y0, y1, y2, y3)).length) = true := decide_eq_true cj
         have cj1 : decide ((j : Int) < ((edgesL k (y0, y1, y2, y3)).length : Int)) = true := decide_eq_true (by omega)
         have hR := (HM5.out.step HBr.out).map.at HV5.out
         rw [HQE.out] at hR
         obtain ⟨⟨⟨e0, e1, e2, e3⟩, d⟩, he⟩ : ∃ e, (edgesL k (y0, y1, y2, y3))[j]? = some e := ⟨_, List.getElem?_eq_getElem cj⟩
         obtain ⟨ae, rfl, h0, h1, h2, h3, h4⟩ := at_kE (Kd.R_reads' hR).2.2 j _ he
         have HEM := Aside0.mk (edge_ok HSY.out (List.mem_of_getElem? he))
         have HGT := Aside0.mk (sand_good HEM.out.1)
         have HEE := Aside0.mk he
         have p0 : (0 : Int) ≤ (j : Int) := by omega
         have p1 : (j : Int) < ((edgesL k (y0, y1, y2, y3)).length : Int) := by omega
         have hd0 : 0 < d := HEM.out.2.1
         have hd1 : d ≤ 30 := HEM.out.2.2
         obtain ⟨u, hu⟩ := HD.out.next _ ⟨_, HXY.out⟩ _ (List.mem_of_getElem? he)
         have HU := Aside0.mk hu
         have HOX := Aside0.mk (MapKd.own_below (MapKd.ranges_own HR5.out) HBr.out)
         clear hR he hu
         by_cases cd : d ≤ (t1 : Int)
         ·have cd0 : decide (d ≤ (t1 : Int)) = true := decide_eq_true cd
          obtain ⟨uN, rfl, huN, hub⟩ : ∃ uN : Nat, u = (uN : Int) ∧ uN < 18446744073709551616 ∧ uN / 2 ^ (t1 - d.toNat) % 2 = bvN k (t1 - 1) (e0, e1, e2, e3) / 2 ^ (t1 - d.toNat) % 2 := by
           have hp := two_pow_lt (show t1 ≤ 60 by omega)
           rcases HV.out _ HU.out with ⟨_, h⟩ | ⟨_, h⟩
           ·refine ⟨_, h, ?_, ?_⟩
            ·have := bv_lt k t1 (e0, e1, e2, e3)
             rw [Nat.pow_succ] at this
             show bvN k t1 (e0, e1, e2, e3) < _
             omega
            ·show bvN k t1 (e0, e1, e2, e3) / 2 ^ (t1 - d.toNat) % 2 = _
             have := bv_bit k (t1 - 1) (e0, e1, e2, e3) (u := t1 - d.toNat) (by omega)
             rw [show t1 - 1 + 1 = t1 by omega] at this
             exact this
           ·refine ⟨_, h, ?_, rfl⟩
            have := bv_lt k (t1 - 1) (e0, e1, e2, e3)
            rw [show t1 - 1 + 1 = t1 by omega] at this
            show bvN k (t1 - 1) (e0, e1, e2, e3) < _
            omega
          have HGU := Aside0.mk (getA_mem HD.out.nd HU.out)
          have hlk : ∀ n : Nat, (Instr.lookup 64 (.map (some w.heap.size)) (.agg #[.int .i64 e0, .int .i64 e1, .int .i64 e2, .int .i64 e3]) false).run Try.prog ((wx.alloc (.cells #[.int .i64 e0, .int .i64 e1, .int .i64 e2, .int .i64 e3, .int .i64 d] 109 (0, 0))).drewN n) = .ok (.int .u64 (uN : Int)) ((wx.alloc (.cells #[.int .i64 e0, .int .i64 e1, .int .i64 e2, .int .i64 e3, .int .i64 d] 109 (0, 0))).drewN n) := fun n => by
           have := look_own1 (M := MU) HOX.out Try.underlying64 zeroU HGT.out ((wx.alloc (.cells #[.int .i64 e0, .int .i64 e1, .int .i64 e2, .int .i64 e3, .int .i64 d] 109 (0, 0))).drewN n) (pw_below_drewN (below_alloc (Below.refl _ _) _) n)
           rw [HGU.out] at this
           exact this
          have q0 : 0 ≤ (t1 : Int) - d := by omega
          have q1 : (t1 : Int) - d ≤ 60 := by omega
          have hsh : ((t1 : Int) - d).toNat = t1 - d.toNat := by omega
          have hbit : (bits BinOp.and IntKind.u64 ((uN : Int) / 2 ^ ((t1 : Int) - d).toNat) 1 == 1) = hitB (bvN k (t1 - 1)) t1 ((e0, e1, e2, e3), d) := by
           rw [hsh, bit_read huN, hub]
           unfold hitB
           rw [decide_eq_true (show (((e0, e1, e2, e3), d) : Edge).2 ≤ (t1 : Int) from cd), Bool.true_and]
          cases hh : hitB (bvN k (t1 - 1)) t1 ((e0, e1, e2, e3), d) with
          | false =>
           rw [hh] at hbit
           have HH := Aside0.mk hh
           clear hh huN hub hsh
           go_wp2_with fail
           go_quiet (fail)
           go_wp2_with fail
           exact ⟨⟨j + 1, cu, rfl, by go_num, ⟨by rw [take_any HEE.out, HH.out, Bool.or_false]; exact HCU.out⟩, ⟨by omega⟩, ⟨below_chain HBr.out (pw_below_drewN (below_alloc (Below.refl _ _) _) _)⟩⟩, by simp only [intOf]; omega⟩
          | true =>
           rw [hh] at hbit
           have HH := Aside0.mk hh
           clear hh huN hub hsh
           have HOR := Aside0.mk (show bits BinOp.or IntKind.u64 (cu : Int) (IntKind.u64.wrap (2 ^ t1)) = ((vN + 2 ^ t1 : Nat) : Int) from by
            have h := bit_or (show t1 ≤ 60 by omega) hv60
            rw [wrap_pow (show t1 ≤ 60 by omega), HCU.out]
            split
            ·exact h.2
            ·rw [Nat.add_zero]; exact h.1)
           go_wp2_with fail
           go_quiet (fail)
           go_wp2_with fail
           rw [HOR.out]
           exact ⟨⟨j + 1, _, rfl, by go_num, ⟨by rw [take_any HEE.out, HH.out, Bool.or_true, if_pos rfl]⟩, ⟨by omega⟩, ⟨below_chain HBr.out (pw_below_drewN (below_alloc (Below.refl _ _) _) _)⟩⟩, by simp only [intOf]; omega⟩
         ·have cd0 : decide (d ≤ (t1 : Int)) = false := decide_eq_false cd
          have HH := Aside0.mk (show hitB (bvN k (t1 - 1)) t1 ((e0, e1, e2, e3), d) = false from by
           unfold hitB
           rw [decide_eq_false (show ¬ (((e0, e1, e2, e3), d) : Edge).2 ≤ (t1 : Int) from cd), Bool.false_and])
          go_wp2_with fail
          go_quiet (fail)
          go_wp2_with fail
          exact ⟨⟨j + 1, cu, rfl, by go_num, ⟨by rw [take_any HEE.out, HH.out, Bool.or_false]; exact HCU.out⟩, ⟨by omega⟩, ⟨below_chain HBr.out (pw_below_drewN (below_alloc (Below.refl _ _) _) _)⟩⟩, by simp only [intOf]; omega⟩
        ·have cj0 : decide (j < (edgesL k (y0, y1, y2, y3)).length) = false := decide_eq_false cj
         have cj1 : decide ((j : Int) < ((edgesL k (y0, y1, y2, y3)).length : Int)) = false := decide_eq_false (by omega)
         have HCV := Aside0.mk (show (cu : Int) = (bvN k t1 (y0, y1, y2, y3) : Int) from by
          rw [HCU.out, List.take_of_length_le (by omega), HVN.out]
          rw [bv_step ht1.1 (y0, y1, y2, y3)])
         have HRX := Aside0.mk (MapKd.ranges_below HR5.out HBr.out)
         have HYX := Aside0.mk (blk_below HY5.out HBr.out)
         have q0 : wx.cell? ⟨w3.heap.size, 0, none⟩ = some (.int .i64 y0) := (blk_cell HYX.out 0).trans rfl
         have q1 : wx.cell? ⟨w3.heap.size, 1, none⟩ = some (.int .i64 y1) := (blk_cell HYX.out 1).trans rfl
         have q2 : wx.cell? ⟨w3.heap.size, 2, none⟩ = some (.int .i64 y2) := (blk_cell HYX.out 2).trans rfl
         have q3 : wx.cell? ⟨w3.heap.size, 3, none⟩ = some (.int .i64 y3) := (blk_cell HYX.out 3).trans rfl
         have HLX := Aside0.mk (show wx.rangeLeft w.heap.size wz.heap.size < wy.rangeLeft w.heap.size wz.heap.size from by
          rw [MapKd.ranges_left HR5.out (HBr.out.block _ (MapKd.own_lt (MapKd.ranges_own HR5.out))) (HBr.out.block _ (MapKd.ranges_lt HR5.out))]
          exact HLT5.out)
         go_wp2_with (first | (at_mapUpdate; refine wpList_update_ranges _ MU rfl _ _ _ 64 rfl 63 Try.underlying64 w.heap.size wz.heap.size O'.length O' (done ++ [((y0, y1, y2, y3), (vN : Int))]) rfl HRX.out (y0, y1, y2, y3) (cu : Int) (vN : Int) rfl rfl HXY.out ?_; intro w8 hr8 hl8 hg8 hs8) | fail)
         have HR8 := Aside0.mk hr8
         have HL8 := Aside0.mk (show w8.rangeLeft w.heap.size wz.heap.size < wy.rangeLeft w.heap.size wz.heap.size from by rw [hl8]; exact HLX.out)
         have HM8 := Aside0.mk ((HM5.out.step HBr.out).map_ (MapKd.own_is (MapKd.ranges_own HRX.out)) (by have := HBE.out; omega) hg8)
         have HF8 := Aside0.mk ((HF5.out.below HBr.out).step hg8 (fun q hq => .inr (.inr (by have := Option.some.inj hq; omega))))
         have HS8 := Aside0.mk (show wz.heap.size < w8.heap.size from by
          have h1 := MapKd.ranges_lt HR5.out
          have h2 := HBr.out.size
          omega)
         have HLEN := Aside0.mk (show (setA O' (y0, y1, y2, y3) (cu : Int)).length = O'.length from by unfold setA; rw [List.length_map])
         rw [← HLEN.out] at hr8
         have HR9 := Aside0.mk hr8
         have HD8 := Aside0.mk (HD.out.setA (y := (y0, y1, y2, y3)) (v := (cu : Int)) HSY.out)
         have HV8 := Aside0.mk (show ∀ p ∈ setA O' (y0, y1, y2, y3) (cu : Int), (p ∈ setA (done ++ [((y0, y1, y2, y3), (vN : Int))]) (y0, y1, y2, y3) (cu : Int) ∧ p.2 = (bvN k t1 p.1 : Int)) ∨ (p ∉ setA (done ++ [((y0, y1, y2, y3), (vN : Int))]) (y0, y1, y2, y3) (cu : Int) ∧ p.2 = (bvN k (t1 - 1) p.1 : Int)) from fun p hp => by
          rcases mem_setA hp with ⟨e1, _⟩ | ⟨hne, hin⟩
          ·refine .inl ⟨?_, by rw [e1]; exact HCV.out⟩
           have := setA_mem (x := (y0, y1, y2, y3)) (y := (cu : Int)) (L := done ++ [((y0, y1, y2, y3), (vN : Int))]) (p := ((y0, y1, y2, y3), (vN : Int))) (List.mem_append_right _ List.mem_cons_self)
           rw [if_pos rfl] at this
           rw [e1]; exact this
          ·rcases HV.out p hin with ⟨h1, h2⟩ | ⟨h1, h2⟩
           ·refine .inl ⟨?_, h2⟩
            have := setA_mem (x := (y0, y1, y2, y3)) (y := (cu : Int)) (L := done ++ [((y0, y1, y2, y3), (vN : Int))]) (p := p) (List.mem_append_left _ h1)
            rw [if_neg hne] at this
            exact this
           ·refine .inr ⟨fun hc => ?_, h2⟩
            rcases mem_setA hc with ⟨e1, _⟩ | ⟨_, hc⟩
            ·exact hne (by rw [e1])
            ·rcases List.mem_append.1 hc with hc | hc
             ·exact h1 hc
             ·exact hne (by rw [List.mem_singleton.1 hc]))
         clear hr8 hl8 hg8 hs8
         simp only [put_none]
         go_roundw
         case rel => exact ⟨_, _, L5, HR9, HD8, HV8, HM8, HF8, HS8⟩
         case measure => exact HL8.out
    ·have ct0 : decide (t1 ≤ T) = false := decide_eq_false ct
     have ct1 : decide ((t1 : Int) ≤ (T : Int)) = false := decide_eq_false (by omega)
     obtain rfl : t1 = T + 1 := by omega
     go_wp2_with fail
     go_ret
     exact ⟨O, L, rfl, HS.out.out, HD.out, HV.out, by have := HS.out.fr; rw [HOB.out] at this; exact this⟩
end Go.Proofs.Ytlhodfjdmafapaa
end
section
namespace Go.Proofs.Ytlhodfjdmafapaa
open Go.RowKit Go.Maps Go.Proofs.YtlhodfjdmafapaaW.PrintWords Go.Proofs.YtlhodfjdmafapaaW.PrintLast Go.Proofs.Ytlhodfjdmafapaa.QIm
set_option linter.unusedVariables false
set_option linter.unusedSimpArgs false
theorem row_one (W : World) (base : Nat) (s : Sd) (hb : base ≤ W.heap.size) : k4.R 22 (W.alloc (.cells #[.int .i64 s.1, .int .i64 s.2.1, .int .i64 s.2.2.1, .int .i64 s.2.2.2] 22)) base (fun _ => True) (.slice (some ⟨W.heap.size, 0, none⟩) 1 1) [s] := by
 refine ⟨fun j hj => trivial, [.int .i64 s.1, .int .i64 s.2.1, .int .i64 s.2.2.1, .int .i64 s.2.2.2], ?_, rfl, fun j p hp => ?_⟩
 ·exact World.ownsRow_lit (base := base) (e := 22) (size := 4) W #[.int .i64 s.1, .int .i64 s.2.1, .int .i64 s.2.2.1, .int .i64 s.2.2.2] 1 hb (by decide) rfl
 ·cases j with
  | zero =>
   simp only [List.getElem?_cons_zero, Option.some.injEq] at hp
   subst hp
   exact k4_mkM _ _ _ _
  | succ j => simp at hp
theorem meter_c (k : Nat → Int) (base : Nat) (w : World) (hb : base ≤ w.heap.size) : Calls Try.prog 55 #[A4 k] w fun e w' => ∃ bm be : Nat, e = .returned (.pointer (some ⟨bm, 0, none⟩)) ∧ Mtr k bm be base w' [] ∧ base ≤ be ∧ Below w.heap.size w w' := by
 have hmm := @run_makeMap Try.prog
 go_enter Try.func55, Try.ntmps55
 go_wp2_with fail
 go_ret
 refine ⟨w.heap.size + 1 + 1, w.heap.size + 1, rfl, ⟨?_, ⟨?_, fun p hp => absurd hp List.not_mem_nil, fun y hy => ?_, List.Pairwise.nil⟩, fun p hp => absurd hp List.not_mem_nil⟩, by omega, below_alloc (below_alloc (below_alloc (Below.refl _ _) _) _) _⟩
 ·exact box_new (by simp)
 ·have h := MapKd.own_alloc (MapKd.own_made ME (w.alloc (.cells #[.int .i64 (k 0), .int .i64 (k 1), .int .i64 (k 2), .int .i64 (k 3)] 27 (0, 0)))) (.cells #[.int .i64 (k 0), .int .i64 (k 1), .int .i64 (k 2), .int .i64 (k 3), .map (some (w.heap.size + 1))] 104 (0, 0))
  simp only [World.size_alloc] at h
  exact h
 ·unfold qE
  rw [hy]
  rfl
theorem spans_c (k : Nat → Int) (bm be base : Nat) (x : Sd) (T : Nat) (hT : T ≤ 60) (lv : Value) (L : List (Sd × Value)) (hk : isKitB k = true) (hx : Sand k (fn4 x)) (w0 w : World) (hm : Mtr k bm be base w L) (hw0 : Below base w0 w) (hbase : base ≤ w.heap.size) (hl : k4.R 22 w base (fun _ => True) lv [x]) (hbe : base ≤ be) :
  Calls Try.prog 56 #[.pointer (some ⟨bm, 0, none⟩), lv, .int .i64 T] w fun e w' => ∃ (bo : Nat) (O : List (Sd × Int)), e = .returned (.map (some bo)) ∧ MU.own w' bo O.length O ∧ SDone k x O ∧ (∀ p ∈ O, p.2 = (bvN k T p.1 : Int)) ∧ Below base w0 w' :=
 (spans_any k bm be base x T hT lv L hk hx w0 w hm hw0 hbase hl hbe).mono fun e w' ⟨O, L', h1, h2, h3, h4, h5⟩ => ⟨_, O, h1, h2, h3, h4, h5.to hw0 hbase hbe (Kd.R_base hl)⟩
end Go.Proofs.Ytlhodfjdmafapaa
end
section
namespace Go.Proofs.Ytlhodfjdmafapaa
open Go.RowKit Go.Proofs.YtlhodfjdmafapaaW.PrintWords
set_option linter.unusedVariables false
set_option linter.unusedSimpArgs false
def sandX (k : Nat → Int) (id : Int) : Sd := tup4 (sandAt k id)
def idn (k : Nat → Int) (s : Sd) : Int := idOf k (fn4 s)
section
variable {k : Nat → Int}
theorem idn_sid {s : Sd} (h : Sand k (fn4 s)) : idn k s = sid k (s, 0) := by
 have h0 : 0 ≤ fn4 s 0 := h.lo 0 (by omega)
 have h1 : fn4 s 0 ≤ 30 := Int.le_trans (h.hi 0 (by omega)) (h.top 0 (by omega))
 have e1 : wrap64 (fn4 s 0) = fn4 s 0 := wrap_big h0 (by omega)
 have e2 : wrap64 (wrap64 (0 * wrap64 (k 0 + 1)) + fn4 s 0) = fn4 s 0 := by
  rw [Int.zero_mul, show wrap64 0 = 0 from by unfold wrap64; omega, Int.zero_add]
  exact e1
 unfold idn sid idOf idFrom
 rw [e1]
 show _ = wrap64 (wrap64 (wrap64 (wrap64 (wrap64 (wrap64 (wrap64 (wrap64 (0 * wrap64 (k 0 + 1)) + fn4 s 0) * wrap64 (k 1 + 1)) + fn4 s 1) * wrap64 (k 2 + 1)) + fn4 s 2) * wrap64 (k 3 + 1)) + fn4 s 3)
 rw [e2]
theorem val0 {s : Sd} (h : Sand k (fn4 s)) : Val k 0 (s, 0) := ⟨h, Int.le_refl 0, Int.le_refl 0⟩
theorem idn_is {s : Sd} (h : Sand k (fn4 s)) : idn k s = sidT k (s, 0) ∧ 0 ≤ idn k s ∧ idn k s < prodT k := by
 have := sid_is (by omega) (val0 h)
 rw [idn_sid h, this.1]
 refine ⟨rfl, this.2.1, ?_⟩
 have h2 := this.2.2
 rw [show ((s, (0 : Int)) : Spot).2 + 1 = 1 from rfl, Int.one_mul] at h2
 exact h2
theorem idn_inj {s r : Sd} (h : Sand k (fn4 s)) (h' : Sand k (fn4 r)) (e : idn k s = idn k r) : s = r := by
 rw [idn_sid h, idn_sid h'] at e
 exact (Prod.mk.inj (sid_inj (by omega) (val0 h) (val0 h') e)).1
theorem sandX_sand (hk : ∀ i, i < 4 → 0 ≤ k i ∧ k i ≤ 30) {id : Int} (h0 : 0 ≤ id) : Sand k (fn4 (sandX k id)) := by
 have b := fun i hi => (hk i hi).1
 refine ⟨fun i hi => ?_, fun i hi => ?_, fun i hi => (hk i hi).2⟩
 ·obtain rfl | rfl | rfl | rfl : i = 0 ∨ i = 1 ∨ i = 2 ∨ i = 3 := by omega
  ·exact Int.emod_nonneg _ (by have := b 0 (by omega); omega)
  ·exact Int.emod_nonneg _ (by have := b 1 (by omega); omega)
  ·exact Int.emod_nonneg _ (by have := b 2 (by omega); omega)
  ·exact Int.emod_nonneg _ (by have := b 3 (by omega); omega)
 ·obtain rfl | rfl | rfl | rfl : i = 0 ∨ i = 1 ∨ i = 2 ∨ i = 3 := by omega
  ·have := Int.emod_lt_of_pos (id / (k 3 + 1) / (k 2 + 1) / (k 1 + 1)) (show 0 < k 0 + 1 by have := b 0 (by omega); omega)
   exact Int.lt_add_one_iff.1 this
  ·have := Int.emod_lt_of_pos (id / (k 3 + 1) / (k 2 + 1)) (show 0 < k 1 + 1 by have := b 1 (by omega); omega)
   exact Int.lt_add_one_iff.1 this
  ·have := Int.emod_lt_of_pos (id / (k 3 + 1)) (show 0 < k 2 + 1 by have := b 2 (by omega); omega)
   exact Int.lt_add_one_iff.1 this
  ·have := Int.emod_lt_of_pos id (show 0 < k 3 + 1 by have := b 3 (by omega); omega)
   exact Int.lt_add_one_iff.1 this
theorem div_lt {a p c : Int} (h : a < p * c) (hc : 0 < c) : a / c < p := by
 exact Int.ediv_lt_of_lt_mul hc h
theorem idn_sandX (hk : ∀ i, i < 4 → 0 ≤ k i ∧ k i ≤ 30) {id : Int} (h0 : 0 ≤ id) (h1 : id < prodT k) : idn k (sandX k id) = id := by
 have c0 : 0 < k 0 + 1 := by have := (hk 0 (by omega)).1; omega
 have c1 : 0 < k 1 + 1 := by have := (hk 1 (by omega)).1; omega
 have c2 : 0 < k 2 + 1 := by have := (hk 2 (by omega)).1; omega
 have c3 : 0 < k 3 + 1 := by have := (hk 3 (by omega)).1; omega
 rw [(idn_is (sandX_sand hk h0)).1]
 have d3 : id / (k 3 + 1) < (k 0 + 1) * (k 1 + 1) * (k 2 + 1) := div_lt h1 c3
 have d2 : id / (k 3 + 1) / (k 2 + 1) < (k 0 + 1) * (k 1 + 1) := div_lt d3 c2
 have d1 : id / (k 3 + 1) / (k 2 + 1) / (k 1 + 1) < k 0 + 1 := div_lt d2 c1
 have n3 : 0 ≤ id / (k 3 + 1) := Int.ediv_nonneg h0 (by omega)
 have n2 : 0 ≤ id / (k 3 + 1) / (k 2 + 1) := Int.ediv_nonneg n3 (by omega)
 have n1 : 0 ≤ id / (k 3 + 1) / (k 2 + 1) / (k 1 + 1) := Int.ediv_nonneg n2 (by omega)
 have e0 : id / (k 3 + 1) / (k 2 + 1) / (k 1 + 1) % (k 0 + 1) = id / (k 3 + 1) / (k 2 + 1) / (k 1 + 1) := Int.emod_eq_of_lt n1 d1
 show (((0 * (k 0 + 1) + id / (k 3 + 1) / (k 2 + 1) / (k 1 + 1) % (k 0 + 1)) * (k 1 + 1) + id / (k 3 + 1) / (k 2 + 1) % (k 1 + 1)) * (k 2 + 1) + id / (k 3 + 1) % (k 2 + 1)) * (k 3 + 1) + id % (k 3 + 1) = id
 rw [e0, Int.zero_mul, Int.zero_add, Int.mul_comm _ (k 1 + 1), Int.mul_ediv_add_emod, Int.mul_comm _ (k 2 + 1), Int.mul_ediv_add_emod, Int.mul_comm _ (k 3 + 1), Int.mul_ediv_add_emod]
theorem sandX_idn (hk : ∀ i, i < 4 → 0 ≤ k i ∧ k i ≤ 30) {s : Sd} (h : Sand k (fn4 s)) : sandX k (idn k s) = s := by
 have b := (idn_is h).2
 exact idn_inj (sandX_sand hk b.1) h (idn_sandX hk b.1 b.2)
theorem sandX_zero : sandX k 0 = calm0 := by
 show (0 / (k 3 + 1) / (k 2 + 1) / (k 1 + 1) % (k 0 + 1), 0 / (k 3 + 1) / (k 2 + 1) % (k 1 + 1), 0 / (k 3 + 1) % (k 2 + 1), 0 % (k 3 + 1)) = ((0, 0, 0, 0) : Sd)
 simp
end
/-- all steps of a sand: by numbers, with their minutes -/
def nextL (k : Nat → Int) (id : Int) : List (Int × Int) := ((setsL k).filter fun set => decide (0 < goD k (sandX k id) set)).map fun set => (idn k (goS k (sandX k id) set), goD k (sandX k id) set)
theorem nextL_mem {k : Nat → Int} (hk : ∀ i, i < 4 → 0 ≤ k i ∧ k i ≤ 30) {id : Int} (h0 : 0 ≤ id) {p : Int × Int} (h : p ∈ nextL k id) : ∃ set ∈ setsL k, 0 < goD k (sandX k id) set ∧ goD k (sandX k id) set ≤ 30 ∧ p.2 = goD k (sandX k id) set ∧ 0 ≤ p.1 ∧ p.1 < prodT k ∧ sandX k p.1 = goS k (sandX k id) set := by
 obtain ⟨set, hs, rfl⟩ := List.mem_map.1 h
 obtain ⟨h1, h2⟩ := List.mem_filter.1 hs
 have hS := sandX_sand hk h0
 have hT := sand_tup (hS.step set)
 have hb := idn_is hT
 exact ⟨set, h1, of_decide_eq_true h2, (hS.stepD set).2, rfl, hb.2.1, hb.2.2, sandX_idn hk hT⟩
theorem nextL_len (k : Nat → Int) (id : Int) : (nextL k id).length ≤ 16 := by
 unfold nextL
 rw [List.length_map]
 exact Nat.le_trans (List.length_filter_le _ _) (setsL_len k)
def cntO (out : List Int) : Nat := (out.filter fun v => decide (0 ≤ v)).length
theorem cntO_le (out : List Int) : cntO out ≤ out.length := List.length_filter_le _ _
theorem cntO_set {v : Int} (hv : 0 ≤ v) : ∀ (out : List Int) (i : Nat), i < out.length → cntO (out.set i v) = cntO out + (if 0 ≤ out.getD i 0 then 0 else 1)
 | [], i, h => absurd h (Nat.not_lt_zero _)
 | a :: r, 0, _ => by
  simp only [List.set_cons_zero, cntO, List.filter_cons, List.getD_cons_zero]
  by_cases c : 0 ≤ a
  ·simp [hv, c]
  ·simp [hv, c]
 | a :: r, i + 1, h => by
  have ih := cntO_set hv r i (by simpa using h)
  simp only [cntO] at ih
  simp only [List.set_cons_succ, cntO, List.filter_cons, List.getD_cons_succ]
  by_cases c : 0 ≤ a
  ·simp only [c, decide_true, if_true, List.length_cons, ih]; omega
  ·simp only [c, decide_false, Bool.false_eq_true, if_false, ih]
theorem rd_same {out : List Int} {i v : Int} (h0 : 0 ≤ i) (h1 : i < (out.length : Int)) : rd (out.set i.toNat v) i = v := by
 unfold rd
 rw [List.getD_eq_getElem?_getD, List.getElem?_set_self (by omega)]
 rfl
theorem rd_ne {out : List Int} {i j v : Int} (h0 : 0 ≤ i) (h1 : 0 ≤ j) (h : i ≠ j) : rd (out.set i.toNat v) j = rd out j := by
 unfold rd
 rw [List.getD_eq_getElem?_getD, List.getD_eq_getElem?_getD, List.getElem?_set_ne (by omega)]
def updI (Q : Int → List Int) (t : Int) (l : List Int) : Int → List Int := fun u => if u = t then l else Q u
theorem updI_same (Q : Int → List Int) (t : Int) (l : List Int) : updI Q t l t = l := by unfold updI; rw [if_pos rfl]
theorem updI_ne (Q : Int → List Int) {t u : Int} (l : List Int) (h : u ≠ t) : updI Q t l u = Q u := by unfold updI; rw [if_neg h]
structure EInv (k : Nat → Int) (out : List Int) (Q : Int → List Int) (len : Nat) (t : Int) (n : Nat) (x : Int) (rest : List (Int × Int)) : Prop where
 olen : (out.length : Int) = prodT k
 reach : ∀ id, 0 ≤ id → id < prodT k → 0 ≤ rd out id → Reach k (sandX k id) (rd out id)
 neg : ∀ id, 0 ≤ id → id < prodT k → rd out id < 0 → rd out id = -1
 zero : rd out 0 = 0
 olt : ∀ id, 0 ≤ id → id < prodT k → rd out id < len
 queue : ∀ u id, id ∈ Q u → 0 ≤ id ∧ id < prodT k ∧ 0 ≤ rd out id ∧ rd out id ≤ u ∧ u < len
 nodup : ∀ u, (Q u).Nodup
 done : ∀ id, 0 ≤ id → id < prodT k → 0 ≤ rd out id → (t < rd out id ∧ id ∈ Q (rd out id)) ∨ (rd out id = t ∧ id ∈ (Q t).drop n) ∨ ∀ p ∈ nextL k id, (id = x ∧ p ∈ rest) ∨ (0 ≤ rd out p.1 ∧ rd out p.1 ≤ rd out id + p.2)
 lenB : len ≤ 30 * cntO out + 1
 t0 : 0 ≤ t
 cur : rest = [] ∨ (0 ≤ x ∧ x < prodT k ∧ rd out x = t ∧ t < len ∧ ∀ p ∈ rest, p ∈ nextL k x)
def startI : Int → List Int := updI (fun _ => []) 0 [0]
theorem EInv.start {k : Nat → Int} (hk : ∀ i, i < 4 → 0 ≤ k i ∧ k i ≤ 30) {N : Nat} (hN : (N : Int) = prodT k) (hp : 1 ≤ prodT k) : EInv k ((List.replicate N (-1)).set 0 0) startI 1 0 0 0 [] := by
 have hl : ((List.replicate N (-1 : Int)).length : Int) = prodT k := by rw [List.length_replicate]; exact hN
 have h0 : rd ((List.replicate N (-1 : Int)).set 0 0) 0 = 0 := rd_same (i := 0) (Int.le_refl 0) (by omega)
 have h1 : ∀ id, 0 ≤ id → id < prodT k → id ≠ 0 → rd ((List.replicate N (-1 : Int)).set 0 0) id = -1 := fun id a b c => by
  have := rd_ne (out := List.replicate N (-1 : Int)) (v := 0) (Int.le_refl 0) a (Ne.symm c)
  rw [show (List.replicate N (-1 : Int)).set 0 0 = (List.replicate N (-1 : Int)).set (0 : Int).toNat 0 from rfl, this]
  unfold rd
  rw [List.getD_eq_getElem?_getD, List.getElem?_replicate, if_pos (by omega)]
  rfl
 refine ⟨by rw [List.length_set]; exact hl, fun id a b c => ?_, fun id a b c => ?_, h0, fun id a b => ?_, fun u id h => ?_, fun u => ?_, fun id a b c => ?_, ?_, Int.le_refl 0, .inl rfl⟩
 ·by_cases e : id = 0
  ·subst e; rw [h0, sandX_zero]; exact Reach.calm
  ·rw [h1 id a b e] at c; omega
 ·by_cases e : id = 0
  ·subst e; omega
  ·exact h1 id a b e
 ·by_cases e : id = 0
  ·subst e; omega
  ·rw [h1 id a b e]; omega
 ·by_cases e : u = 0
  ·subst e
   rw [startI, updI_same] at h
   rw [List.mem_singleton.1 h, h0]
   omega
  ·rw [startI, updI_ne _ _ e] at h; exact absurd h List.not_mem_nil
 ·by_cases e : u = 0
  ·subst e; rw [startI, updI_same]; simp
  ·rw [startI, updI_ne _ _ e]; exact List.nodup_nil
 ·by_cases e : id = 0
  ·subst e; exact .inr (.inl ⟨h0, by rw [startI, updI_same]; exact List.mem_cons_self⟩)
  ·rw [h1 id a b e] at c; omega
 ·omega
section
variable {k : Nat → Int} {out : List Int} {Q : Int → List Int} {len : Nat} {t : Int} {n : Nat} {x : Int} {rest : List (Int × Int)}
theorem EInv.any (h : EInv k out Q len t n x []) (y : Int) : EInv k out Q len t n y [] :=
 ⟨h.olen, h.reach, h.neg, h.zero, h.olt, h.queue, h.nodup, fun id a b c => by
  rcases h.done id a b c with d | d | d
  ·exact .inl d
  ·exact .inr (.inl d)
  ·exact .inr (.inr fun p hp => (d p hp).imp (fun c => absurd c.2 List.not_mem_nil) (fun c => c)), h.lenB, h.t0, .inl rfl⟩
theorem mem_drop_next {l : List Int} {n : Nat} {a b : Int} (h0 : l[n]? = some b) (h : a ∈ l.drop n) : a = b ∨ a ∈ l.drop (n + 1) := by
 have hl : n < l.length := by
  rcases Nat.lt_or_ge n l.length with q | q
  ·exact q
  ·rw [List.getElem?_eq_none q] at h0; cases h0
 rw [List.drop_eq_getElem_cons hl] at h
 have e : l[n] = b := by rw [List.getElem?_eq_getElem hl] at h0; exact Option.some.inj h0
 rw [e] at h
 exact List.mem_cons.1 h
theorem EInv.skip (h : EInv k out Q len t n x []) {id : Int} (hs : (Q t)[n]? = some id) (hm : rd out id ≠ t) : EInv k out Q len t (n + 1) x [] :=
 ⟨h.olen, h.reach, h.neg, h.zero, h.olt, h.queue, h.nodup, fun i a b c => by
  rcases h.done i a b c with d | ⟨d1, d2⟩ | d
  ·exact .inl d
  ·rcases mem_drop_next hs d2 with rfl | d2
   ·exact absurd d1 hm
   ·exact .inr (.inl ⟨d1, d2⟩)
  ·exact .inr (.inr d), h.lenB, h.t0, h.cur⟩
theorem EInv.take (h : EInv k out Q len t n x []) {id : Int} (hs : (Q t)[n]? = some id) (hm : rd out id = t) : EInv k out Q len t (n + 1) id (nextL k id) := by
 obtain ⟨q0, q1, q2, q3, q4⟩ := h.queue _ _ (List.mem_of_getElem? hs)
 refine ⟨h.olen, h.reach, h.neg, h.zero, h.olt, h.queue, h.nodup, fun i a b c => ?_, h.lenB, h.t0, .inr ⟨q0, q1, hm, q4, fun _ hp => hp⟩⟩
 rcases h.done i a b c with d | ⟨d1, d2⟩ | d
 ·exact .inl d
 ·rcases mem_drop_next hs d2 with rfl | d2
  ·exact .inr (.inr fun p hp => .inl ⟨rfl, hp⟩)
  ·exact .inr (.inl ⟨d1, d2⟩)
 ·exact .inr (.inr fun p hp => (d p hp).imp (fun c => absurd c.2 List.not_mem_nil) (fun c => c))
theorem EInv.drop {p : Int × Int} (h : EInv k out Q len t n x (p :: rest)) (hc : 0 ≤ rd out p.1 ∧ rd out p.1 ≤ t + p.2) : EInv k out Q len t n x rest := by
 obtain ⟨x0, x1, x2, x3, x4⟩ := h.cur.resolve_left (by simp)
 refine ⟨h.olen, h.reach, h.neg, h.zero, h.olt, h.queue, h.nodup, fun i a b c => ?_, h.lenB, h.t0, .inr ⟨x0, x1, x2, x3, fun q hq => x4 q (List.mem_cons_of_mem _ hq)⟩⟩
 rcases h.done i a b c with d | d | d
 ·exact .inl d
 ·exact .inr (.inl d)
 ·refine .inr (.inr fun q hq => ?_)
  rcases d q hq with ⟨d1, d2⟩ | d
  ·rcases List.mem_cons.1 d2 with rfl | d2
   ·refine .inr ⟨hc.1, ?_⟩
    rw [d1, x2]; exact hc.2
   ·exact .inl ⟨d1, d2⟩
  ·exact .inr d
theorem EInv.push (hk : ∀ i, i < 4 → 0 ≤ k i ∧ k i ≤ 30) {p : Int × Int} (h : EInv k out Q len t n x (p :: rest)) (hc : ¬ (0 ≤ rd out p.1 ∧ rd out p.1 ≤ t + p.2)) :
  EInv k (out.set p.1.toNat (t + p.2)) (updI Q (t + p.2) (Q (t + p.2) ++ [p.1])) (max len (t + p.2 + 1).toNat) t n x rest := by
 obtain ⟨x0, x1, x2, x3, x4⟩ := h.cur.resolve_left (by simp)
 obtain ⟨set, s1, s2, s3, s4, s5, s6, s7⟩ := nextL_mem hk x0 (x4 p List.mem_cons_self)
 have ht := h.t0
 have hol := h.olen
 have e0 : rd (out.set p.1.toNat (t + p.2)) p.1 = t + p.2 := rd_same s5 (by omega)
 have e1 : ∀ id, 0 ≤ id → id ≠ p.1 → rd (out.set p.1.toNat (t + p.2)) id = rd out id := fun id a b => rd_ne s5 a (Ne.symm b)
 have hx : x ≠ p.1 := fun e => hc (by rw [← e, x2]; omega)
 have hself : updI Q (t + p.2) (Q (t + p.2) ++ [p.1]) t = Q t := updI_ne _ _ (by omega)
 have hmono : ∀ u id, id ∈ Q u → id ∈ updI Q (t + p.2) (Q (t + p.2) ++ [p.1]) u := fun u id hq => by
  by_cases q : u = t + p.2
  ·rw [q, updI_same]; rw [q] at hq; exact List.mem_append_left _ hq
  ·rw [updI_ne _ _ q]; exact hq
 refine ⟨by rw [List.length_set]; exact hol, fun id a b c => ?_, fun id a b c => ?_, ?_, fun id a b => ?_, fun u id hu => ?_, fun u => ?_, fun id a b c => ?_, ?_, ht, .inr ⟨x0, x1, by rw [e1 x x0 hx]; exact x2, by omega, fun q hq => x4 q (List.mem_cons_of_mem _ hq)⟩⟩
 ·by_cases q : id = p.1
  ·rw [q, e0, s7, s4]
   have := h.reach x x0 x1 (by omega)
   rw [x2] at this
   exact Reach.step _ _ _ this s1 s2
  ·rw [e1 id a q] at c ⊢; exact h.reach id a b c
 ·by_cases q : id = p.1
  ·rw [q, e0] at c; omega
  ·rw [e1 id a q] at c ⊢; exact h.neg id a b c
 ·have : (0 : Int) ≠ p.1 := fun e => hc (by rw [← e, h.zero]; omega)
  rw [e1 0 (Int.le_refl 0) this]; exact h.zero
 ·by_cases q : id = p.1
  ·rw [q, e0]; omega
  ·rw [e1 id a q]; have := h.olt id a b; omega
 ·have old : id ∈ Q u → 0 ≤ id ∧ id < prodT k ∧ 0 ≤ rd (out.set p.1.toNat (t + p.2)) id ∧ rd (out.set p.1.toNat (t + p.2)) id ≤ u ∧ u < ((max len (t + p.2 + 1).toNat : Nat) : Int) := fun hu => by
   obtain ⟨a1, a2, a3, a4, a5⟩ := h.queue u id hu
   by_cases q : id = p.1
   ·rw [q, e0]
    rw [q] at a3 a4 a1 a2
    refine ⟨a1, a2, by omega, ?_, by omega⟩
    have : ¬ rd out p.1 ≤ t + p.2 := fun e => hc ⟨a3, e⟩
    omega
   ·rw [e1 id a1 q]; exact ⟨a1, a2, a3, a4, by omega⟩
  by_cases q : u = t + p.2
  ·rw [q, updI_same] at hu
   rcases List.mem_append.1 hu with hu | hu
   ·exact old (by rw [q]; exact hu)
   ·rw [List.mem_singleton.1 hu, e0, q]
    exact ⟨s5, s6, by omega, Int.le_refl _, by omega⟩
  ·rw [updI_ne _ _ q] at hu
   exact old hu
 ·by_cases q : u = t + p.2
  ·rw [q, updI_same]
   refine List.nodup_append.2 ⟨h.nodup _, by simp, fun a ha b hb e => ?_⟩
   rw [List.mem_singleton.1 hb] at e
   rw [e] at ha
   obtain ⟨a1, a2, a3, a4, a5⟩ := h.queue _ _ ha
   exact hc ⟨a3, a4⟩
  ·rw [updI_ne _ _ q]; exact h.nodup u
 ·by_cases q : id = p.1
  ·rw [q, e0]
   exact .inl ⟨by omega, by rw [updI_same]; exact List.mem_append_right _ List.mem_cons_self⟩
  ·rw [e1 id a q] at c ⊢
   rcases h.done id a b c with ⟨d1, d2⟩ | ⟨d1, d2⟩ | d
   ·exact .inl ⟨d1, hmono _ _ d2⟩
   ·exact .inr (.inl ⟨d1, by rw [hself]; exact d2⟩)
   ·refine .inr (.inr fun r hr => ?_)
    obtain ⟨_, _, _, _, _, r5, r6, _⟩ := nextL_mem hk a hr
    rcases d r hr with ⟨d1, d2⟩ | ⟨d1, d2⟩
    ·rcases List.mem_cons.1 d2 with rfl | d2
     ·exact .inr (by rw [e0, d1, x2]; omega)
     ·exact .inl ⟨d1, d2⟩
    ·by_cases q2 : r.1 = p.1
     ·refine .inr ?_
      rw [q2, e0]
      rw [q2] at d1 d2
      have : ¬ rd out p.1 ≤ t + p.2 := fun e => hc ⟨d1, e⟩
      omega
     ·exact .inr (by rw [e1 r.1 r5 q2]; exact ⟨d1, d2⟩)
 ·have hlb := h.lenB
  rw [cntO_set (by omega) out p.1.toNat (by omega)]
  by_cases q : 0 ≤ rd out p.1
  ·have h1 := h.olt p.1 s5 s6
   have : ¬ rd out p.1 ≤ t + p.2 := fun e => hc ⟨q, e⟩
   omega
  ·rw [if_neg (by exact q)]
   omega
theorem EInv.tick (h : EInv k out Q len t n x []) (hn : (Q t).length ≤ n) : EInv k out Q len (t + 1) 0 0 [] := by
 have h := h.any 0
 refine ⟨h.olen, h.reach, h.neg, h.zero, h.olt, h.queue, h.nodup, fun id a b c => ?_, h.lenB, by have := h.t0; omega, .inl rfl⟩
 rcases h.done id a b c with ⟨d1, d2⟩ | ⟨d1, d2⟩ | d
 ·by_cases q : rd out id = t + 1
  ·exact .inr (.inl ⟨q, by rw [List.drop_zero, ← q]; exact d2⟩)
  ·exact .inl ⟨by omega, d2⟩
 ·rw [List.drop_eq_nil_of_le hn] at d2
  exact absurd d2 List.not_mem_nil
 ·exact .inr (.inr d)
def ofOut (k : Nat → Int) (out : List Int) : List (Sd × Int) := ((List.range (prodT k).toNat).filter fun i => decide (0 ≤ rd out (i : Nat))).map fun (i : Nat) => (sandX k i, rd out i)
theorem ofOut_mem (hk : ∀ i, i < 4 → 0 ≤ k i ∧ k i ≤ 30) {p : Sd × Int} : p ∈ ofOut k out ↔ ∃ id : Int, 0 ≤ id ∧ id < prodT k ∧ 0 ≤ rd out id ∧ p = (sandX k id, rd out id) := by
 unfold ofOut
 constructor
 ·intro h
  obtain ⟨i, hi, rfl⟩ := List.mem_map.1 h
  obtain ⟨h1, h2⟩ := List.mem_filter.1 hi
  have := List.mem_range.1 h1
  exact ⟨(i : Int), by omega, by omega, of_decide_eq_true h2, rfl⟩
 ·rintro ⟨id, a, b, c, rfl⟩
  refine List.mem_map.2 ⟨id.toNat, List.mem_filter.2 ⟨List.mem_range.2 (by omega), ?_⟩, ?_⟩
  ·rw [show ((id.toNat : Nat) : Int) = id by omega]; exact decide_eq_true c
  ·rw [show ((id.toNat : Nat) : Int) = id by omega]
theorem sandX_inj (hk : ∀ i, i < 4 → 0 ≤ k i ∧ k i ≤ 30) {a b : Int} (a0 : 0 ≤ a) (a1 : a < prodT k) (b0 : 0 ≤ b) (b1 : b < prodT k) (e : sandX k a = sandX k b) : a = b := by
 rw [← idn_sandX hk a0 a1, ← idn_sandX hk b0 b1, e]
theorem ofOut_nd (hk : ∀ i, i < 4 → 0 ≤ k i ∧ k i ≤ 30) : Nd (ofOut k out) := by
 unfold ofOut Nd
 rw [List.pairwise_map]
 refine List.Pairwise.imp_of_mem ?_ (List.Pairwise.filter _ List.nodup_range)
 intro a b ha hb hne e
 have h1 := List.mem_range.1 (List.mem_filter.1 ha).1
 have h2 := List.mem_range.1 (List.mem_filter.1 hb).1
 have := sandX_inj hk (a := (a : Int)) (b := (b : Int)) (by omega) (by omega) (by omega) (by omega) e
 exact hne (by omega)
theorem EInv.met (hk : ∀ i, i < 4 → 0 ≤ k i ∧ k i ≤ 30) (hp : 1 ≤ prodT k) (h : EInv k out Q len t 0 x []) (hl : (len : Int) ≤ t) : Met k (ofOut k out) := by
 refine ⟨ofOut_nd hk, (ofOut_mem hk).2 ⟨0, Int.le_refl 0, by omega, by rw [h.zero]; exact Int.le_refl 0, by rw [sandX_zero, h.zero]⟩, fun p hq => ?_, fun p hq set hset hd => ?_⟩
 ·obtain ⟨id, a, b, c, rfl⟩ := (ofOut_mem hk).1 hq
  exact h.reach id a b c
 ·obtain ⟨id, a, b, c, rfl⟩ := (ofOut_mem hk).1 hq
  have hm : (idn k (goS k (sandX k id) set), goD k (sandX k id) set) ∈ nextL k id := List.mem_map.2 ⟨set, List.mem_filter.2 ⟨hset, decide_eq_true hd⟩, rfl⟩
  rcases h.done id a b c with ⟨d1, d2⟩ | ⟨d1, d2⟩ | d
  ·have := h.olt id a b; omega
  ·have := h.olt id a b; omega
  ·rcases d _ hm with ⟨_, d⟩ | ⟨d1, d2⟩
   ·exact absurd d List.not_mem_nil
   ·have hT := sand_tup ((sandX_sand hk a).step set)
    have hb := idn_is hT
    exact ⟨_, d2, (ofOut_mem hk).2 ⟨_, hb.2.1, hb.2.2, d1, by
     show (goS k (sandX k id) set, rd out (idn k (goS k (sandX k id) set))) = (sandX k (idn k (goS k (sandX k id) set)), rd out (idn k (goS k (sandX k id) set)))
     rw [sandX_idn hk (show Sand k (fn4 (goS k (sandX k id) set)) from hT)]⟩⟩
end
/-- the least times of all sands, in the order of their numbers; -1 where a sand is not met -/
noncomputable def earlL (k : Nat → Int) : List Int := (List.range (prodT k).toNat).map fun (i : Nat) => (getA (metL k) (sandX k i)).getD (-1)
theorem EInv.early {k : Nat → Int} (hk : ∀ i, i < 4 → 0 ≤ k i ∧ k i ≤ 30) (hp : 1 ≤ prodT k) {out : List Int} {Q : Int → List Int} {len : Nat} {t x : Int} (h : EInv k out Q len t 0 x []) (hl : (len : Int) ≤ t) : out = earlL k ∧ Met k (metL k) := by
 have hM := h.met hk hp hl
 refine ⟨?_, metL_met hM⟩
 have hol := h.olen
 apply List.ext_getElem?
 intro i
 unfold earlL
 rw [List.getElem?_map]
 by_cases c : i < (prodT k).toNat
 ·rw [List.getElem?_range c, List.getElem?_eq_getElem (by omega)]
  simp only [Option.map_some, Option.some.injEq]
  have e : out[i]'(by omega) = rd out (i : Int) := by
   unfold rd
   rw [List.getD_eq_getElem?_getD, Int.toNat_natCast, List.getElem?_eq_getElem (by omega)]
   rfl
  rw [e, ← getA_perm (metL_perm hM) hM.nd]
  by_cases q : 0 ≤ rd out (i : Int)
  ·rw [getA_mem hM.nd ((ofOut_mem hk).2 ⟨(i : Int), by omega, by omega, q, rfl⟩)]
   rfl
  ·rw [h.neg (i : Int) (by omega) (by omega) (by omega)]
   cases g : getA (ofOut k out) (sandX k i) with
   | none => rfl
   | some z =>
    obtain ⟨id, a, b, d, e2⟩ := (ofOut_mem hk).1 (getA_some g)
    have e3 := sandX_inj hk (by omega) (by omega) a b (Prod.mk.inj e2).1
    rw [← e3] at d
    exact absurd d q
 ·rw [List.getElem?_eq_none (by omega), List.getElem?_eq_none (by rw [List.length_range]; omega)]
  rfl
theorem metL_nd (k : Nat → Int) : Nd (metL k) ∧ ∀ p ∈ metL k, Reach k p.1 p.2 := by
 by_cases h : ∃ M, Met k M
 ·obtain ⟨M, h⟩ := h
  have := metL_met h
  exact ⟨this.nd, this.reach⟩
 ·unfold metL
  rw [dif_neg h]
  exact ⟨List.Pairwise.nil, fun p hp => absurd hp List.not_mem_nil⟩
theorem rd_earl {k : Nat → Int} {id : Int} (h0 : 0 ≤ id) (h1 : id < prodT k) : rd (earlL k) id = (getA (metL k) (sandX k id)).getD (-1) := by
 unfold rd earlL
 rw [List.getD_eq_getElem?_getD, List.getElem?_map, List.getElem?_range (by omega)]
 simp only [Option.map_some, Option.getD_some]
 rw [Int.toNat_of_nonneg h0]
theorem earl_len (k : Nat → Int) (hp : 0 ≤ prodT k) : ((earlL k).length : Int) = prodT k := by
 unfold earlL
 rw [List.length_map, List.length_range]
 omega
theorem earl_perm {k : Nat → Int} (hk : ∀ i, i < 4 → 0 ≤ k i ∧ k i ≤ 30) : (ofOut k (earlL k)).Perm (metL k) := by
 obtain ⟨hn, hr⟩ := metL_nd k
 refine perm_of_mem (nd_nodup (ofOut_nd hk)) (nd_nodup hn) (fun p => ⟨fun hp => ?_, fun hp => ?_⟩)
 ·obtain ⟨id, a, b, c, rfl⟩ := (ofOut_mem hk).1 hp
  rw [rd_earl a b] at c ⊢
  cases g : getA (metL k) (sandX k id) with
  | none => rw [g] at c; simp at c
  | some t => exact getA_some g
 ·obtain ⟨x, t⟩ := p
  obtain ⟨hs, ht⟩ := (hr _ hp).sand hk
  have hb := (idn_is hs).2
  have e : rd (earlL k) (idn k x) = t := by rw [rd_earl hb.1 hb.2, sandX_idn hk hs, getA_mem hn hp]; rfl
  exact (ofOut_mem hk).2 ⟨idn k x, hb.1, hb.2, by rw [e]; exact ht, by rw [sandX_idn hk hs, e]⟩
end Go.Proofs.Ytlhodfjdmafapaa
end
section
namespace Go.Proofs.Ytlhodfjdmafapaa
open Go.RowKit Go.Proofs.YtlhodfjdmafapaaW.PrintWords
set_option linter.unusedVariables false
set_option linter.unusedSimpArgs false
theorem ev_pure {α : Type} {g : Option α} {r : α} (h : g = some r) : Ev (fun _ => g) r := ⟨0, fun _ _ => h⟩
theorem ev_bind0 {α β : Type} {g : Option α} {f : Nat → α → Option β} {a : α} {r : β} (h : g = some a) (k : Ev (fun n => f n a) r) : Ev (fun n => g.bind (f n)) r := Ev.bind (ev_pure h) k
theorem ev_pos {α : Type} {c : Prop} [Decidable c] {g f : Nat → Option α} {r : α} (h : c) (k : Ev g r) : Ev (fun n => if c then g n else f n) r := Ev.congr (fun _ => if_pos h) k
theorem ev_neg {α : Type} {c : Prop} [Decidable c] {g f : Nat → Option α} {r : α} (h : ¬ c) (k : Ev f r) : Ev (fun n => if c then g n else f n) r := Ev.congr (fun _ => if_neg h) k
/-- enough rounds from some number on -/
theorem ev_at {α : Type} {g : Nat → Option α} {r : α} (K : Nat) (h : ∀ k, K ≤ k → g k = some r) : Ev g r := ⟨K, h⟩
end Go.Proofs.Ytlhodfjdmafapaa
end
section
namespace Go.Proofs.Ytlhodfjdmafapaa.QMs
open Go.RowKit Go.Proofs.YtlhodfjdmafapaaW.PrintWords Go.Proofs.YtlhodfjdmafapaaW.PrintLast Go.Proofs.YtlhodfjdmafapaaW.PrintMore
attribute [local go_sem] max2_int min2_int max_two min_two max_three min_three max_four min_four   -- for this text's walks alone
set_option linter.unusedVariables false
set_option linter.unusedSimpArgs false
def errW : Option Int → Value
 | none => .nilIface
 | some c => .iface 0 (.int .i64 c)
theorem errW_none : errW none = .nilIface := rfl
theorem errW_some (c : Int) : errW (some c) = .iface 0 (.int .i64 c) := rfl
theorem info4 : (Try.prog.info? 4).map (fun i => (i.zero, i.size, i.bytes)) = some (some (.bool false), 1, 1) := by kernel_rfl
theorem info60 : (Try.prog.info? 60).map (fun i => (i.zero, i.size, i.bytes)) = some (some (.slice none 0 0), 1, 24) := by kernel_rfl
theorem info95 : (Try.prog.info? 95).map (fun i => (i.zero, i.size, i.bytes)) = some (some (.slice none 0 0), 1, 24) := by kernel_rfl
theorem info98 : (Try.prog.info? 98).map (fun i => (i.zero, i.size, i.bytes)) = some (some (.agg #[(.int .i64 0), (.int .i64 0)]), 2, 16) := by kernel_rfl
-- the values' own types
/-! #### struct type 22 -/
/-! #### struct type 27 -/
/-! #### struct type 98 -/
structure S98 where
 f0 : Int
 f1 : Int
def z98 : S98 := ⟨(0 : Int), (0 : Int)⟩
def k98 : Kd S98 := Kd.iso (Kd.pair (Kd.int .i64) (Kd.int .i64)) (fun x : S98 => (x.f0, x.f1))
theorem k98_open {w : World} {x : S98} {cs : List Value} (h : k98.K w x cs) : cs = [.int .i64 x.f0, .int .i64 x.f1] := by
 obtain ⟨_, _, rfl, rfl, rfl⟩ := h
 exact rfl
theorem k98_mkM (w : World) (base : Nat) (ok : Nat → Prop) (x : S98)  : k98.M w base ok x [.int .i64 x.f0, .int .i64 x.f1] := ⟨[.int .i64 x.f0], [.int .i64 x.f1], rfl, rfl, rfl⟩
def rd_T98 (xs : List S98) (i : Int) : S98 := xs.getD i.toNat z98
theorem at_T98 {w : World} {A : Option Addr} {n : Nat} {xs : List S98} (h : Kd.C k98 w A n xs) (i : Int) (h0 : 0 ≤ i) (h1 : i < n) : ∃ ad , A = some ad ∧ w.cell? (ad.add (i.toNat * 2)) = some (.int .i64 (rd_T98 xs i).f0) ∧ w.cell? ⟨(ad.add (i.toNat * 2)).block, (ad.add (i.toNat * 2)).off + 1, none⟩ = some (.int .i64 (rd_T98 xs i).f1) := by
 obtain ⟨ad, c, e, _, hK, hc0⟩ := Kd.C_get h z98 i h0 h1
 have hc : ∀ j u, c[j]? = some u → w.cell? (ad.add (i.toNat * 2 + j)) = some u := hc0
 obtain rfl := k98_open hK
 exact ⟨ad, e, hc 0 _ rfl, by rw [← add_field _ _ 1 (by omega)]; exact hc 1 _ rfl⟩
def rd_L5 (xs : List (List S98)) (i : Int) : (List S98) := xs.getD i.toNat ([] : List S98)
theorem at_L5 {w : World} {A : Option Addr} {n : Nat} {xs : List (List S98)} (h : Kd.C (Kd.slice 98 k98) w A n xs) (i : Int) (h0 : 0 ≤ i) (h1 : i < n) : ∃ ad A0 c0, A = some ad ∧ w.cell? (ad.add i.toNat) = some (.slice A0 (rd_L5 xs i).length c0) ∧ (rd_L5 xs i).length ≤ c0 ∧ k98.C w A0 (rd_L5 xs i).length (rd_L5 xs i) := by
 obtain ⟨ad, c, e, _, hK, hc0⟩ := Kd.C_get h ([] : List S98) i h0 h1
 have hc : ∀ j u, c[j]? = some u → w.cell? (ad.add (i.toNat * 1 + j)) = some u := hc0
 obtain ⟨A0, c0, rfl, l0, g0⟩ := hK
 exact ⟨ad, A0, c0, e, by have hq := hc 0 _ rfl; rwa [Nat.mul_one, Nat.add_zero] at hq, l0, g0⟩
def rd_L6 (xs : List (List Bool)) (i : Int) : (List Bool) := xs.getD i.toNat ([] : List Bool)
theorem at_L6 {w : World} {A : Option Addr} {n : Nat} {xs : List (List Bool)} (h : Kd.C (Kd.slice 4 Kd.bool) w A n xs) (i : Int) (h0 : 0 ≤ i) (h1 : i < n) : ∃ ad A0 c0, A = some ad ∧ w.cell? (ad.add i.toNat) = some (.slice A0 (rd_L6 xs i).length c0) ∧ (rd_L6 xs i).length ≤ c0 ∧ Kd.bool.C w A0 (rd_L6 xs i).length (rd_L6 xs i) := by
 obtain ⟨ad, c, e, _, hK, hc0⟩ := Kd.C_get h ([] : List Bool) i h0 h1
 have hc : ∀ j u, c[j]? = some u → w.cell? (ad.add (i.toNat * 1 + j)) = some u := hc0
 obtain ⟨A0, c0, rfl, l0, g0⟩ := hK
 exact ⟨ad, A0, c0, e, by have hq := hc 0 _ rfl; rwa [Nat.mul_one, Nat.add_zero] at hq, l0, g0⟩
end Go.Proofs.Ytlhodfjdmafapaa.QMs
end
section
namespace Go.Proofs.Ytlhodfjdmafapaa.QMs
open Go.RowKit Go.Proofs.YtlhodfjdmafapaaW.PrintWords Go.Proofs.YtlhodfjdmafapaaW.PrintLast Go.Proofs.YtlhodfjdmafapaaW.PrintMore
attribute [local go_sem] max2_int min2_int max_two min_two max_three min_three max_four min_four   -- for this text's walks alone
set_option linter.unusedVariables false
set_option linter.unusedSimpArgs false
/-! ### spec_l1In: function 59 -/
def spec_l1In.f (a0 : Int) (a1 : Int) (a2 : Int) : Option (Bool) := if a0 ≥ a1 then (some (decide (a0 ≤ a2))) else (some false)
set_option maxHeartbeats 8000000 in
set_option maxRecDepth 100000 in
theorem spec_l1In.calls (a0 : Int) (a1 : Int) (a2 : Int) (r : Bool) (w : World) (h : spec_l1In.f a0 a1 a2 = some r) :
  Calls Try.prog 59 #[.int .i64 a0, .int .i64 a1, .int .i64 a2] w fun e w' => e = .returned (.bool r) ∧ Drawn0 w w' := by
 have H : (if a0 ≥ a1 then (some (decide (a0 ≤ a2))) else (some false)) = some r := h
 clear h
 by_cases c4 : a0 ≥ a1
 ·rw [if_pos c4] at H
  have c4b0 : decide (a1 ≤ a0) = true := decide_eq_true c4
  clear c4
  obtain rfl := Option.some.inj H
  go_enter Try.func59, Try.ntmps59
  go_wp2
  go_ret
  exact ⟨by first | rfl | (simp; done) | (simp [*]; done), by repeat (first | exact Drawn0.refl _ | apply Drawn0.step)⟩
 ·rw [if_neg c4] at H
  have c4b0 : decide (a1 ≤ a0) = false := decide_eq_false c4
  clear c4
  obtain rfl := Option.some.inj H
  go_enter Try.func59, Try.ntmps59
  go_wp2
  go_ret
  exact ⟨by first | rfl | (simp; done) | (simp [*]; done), by repeat (first | exact Drawn0.refl _ | apply Drawn0.step)⟩
/-! ### spec_l4Span: function 52 -/
def spec_l4Span.f (a0 : Int) : Option (Bool) := (spec_l1In.f a0 1 60).bind fun t101 => (some t101)
set_option maxHeartbeats 8000000 in
set_option maxRecDepth 100000 in
theorem spec_l4Span.calls (a0 : Int) (r : Bool) (w : World) (h : spec_l4Span.f a0 = some r) :
  Calls Try.prog 52 #[.int .i64 a0] w fun e w' => e = .returned (.bool r) ∧ Drawn0 w w' := by
 have H : ((spec_l1In.f a0 1 60).bind fun t101 => (some t101)) = some r := h
 clear h
 replace H := Option.bind_eq_some_iff.mp H
 obtain ⟨t101, A20, H⟩ := H
 replace H : (some t101) = some r := H
 have A2 := Aside0.mk A20
 clear A20
 obtain rfl := Option.some.inj H
 go_enter Try.func52, Try.ntmps52
 go_wp2_with (first | ((with_reducible refine gate_callee (f := 59) rfl ?_); refine goesL_ (some 4) rfl rfl Try.func59 (by kernel_rfl) rfl #[.int .i64 a0, .int .i64 1, .int .i64 60] rfl (by (try simp only [List.map_toArray, List.map_cons, List.map_nil]); first | done | rfl | (simp only [List.length_drop, List.length_take]; rfl)) ?_; (with_reducible refine (spec_l1In.calls a0 1 60 t101 _ A2.out).mono ?_); rintro e w' ⟨rfl, ⟨nd, rfl⟩⟩; refine ⟨_, rfl, ?_⟩))
 go_ret
 exact ⟨by first | rfl | (simp; done) | (simp [*]; done), by repeat (first | exact Drawn0.refl _ | apply Drawn0.step)⟩
/-- THE ONE PURE STATEMENT of spec_l4Span: yours. -/
def spec_l4Span.Pure : Prop := ∀ (a0 : Int), (Lit.int .i64 a0).wf = true → spec_l4Span.f a0 = some true
theorem spec_l4Span.walk (P : spec_l4Span.Pure) (a0 : Int) (w : World) (w0 : (Lit.int .i64 a0).wf = true) :
  Calls Try.prog 52 #[.int .i64 a0] w fun e w' => e = .returned (.bool true) ∧ Below w.heap.size w w' := by
 have h := P a0 w0
 refine (spec_l4Span.calls a0 true w h).mono ?_
 rintro e w' ⟨rfl, hd⟩
 exact ⟨rfl, hd.below⟩
/-! ### spec_l4Next: function 78 -/
def spec_l4Next.l0 : Nat → List (S98) → Int → Int → Int → Int → Int → Int → Int → Int → Int → Option ((List (S98)))
 | 0, _, _, _, _, _, _, _, _, _, _ => none
 | k + 1, x5, x6, x103000, x103001, x103002, x103003, x104000, x104001, x104002, x104003 => if x6 < 16 then ((xL2Set.f x103000 x103001 x103002 x103003 x6).bind fun t107 => (if t107 = true then ((xL2Step.f x103000 x103001 x103002 x103003 x104000 x104001 x104002 x104003 x6).bind fun bt108 => (if bt108.2.2.2.2 > 0 then ((xL4Id.f x103000 x103001 x103002 x103003 bt108.1 bt108.2.1 bt108.2.2.1 bt108.2.2.2.1).bind fun t114 => (if x5.length < 8796093022208 then (spec_l4Next.l0 k (x5 ++ [(⟨t114, bt108.2.2.2.2⟩ : S98)]) (wrap64 (x6 + 1)) x103000 x103001 x103002 x103003 x104000 x104001 x104002 x104003) else (none))) else (spec_l4Next.l0 k x5 (wrap64 (x6 + 1)) x103000 x103001 x103002 x103003 x104000 x104001 x104002 x104003))) else (spec_l4Next.l0 k x5 (wrap64 (x6 + 1)) x103000 x103001 x103002 x103003 x104000 x104001 x104002 x104003))) else (some x5)
def spec_l4Next.f (k : Nat) (a0_0 : Int) (a0_1 : Int) (a0_2 : Int) (a0_3 : Int) (a1_0 : Int) (a1_1 : Int) (a1_2 : Int) (a1_3 : Int) : Option ((List (S98))) := spec_l4Next.l0 k (([] : List (S98))) 0 a0_0 a0_1 a0_2 a0_3 a1_0 a1_1 a1_2 a1_3
theorem spec_l4Next.mono_l : ∀ k, (∀ y0 y1 y2 y3 y4 y5 y6 y7 y8 y9, LeO (spec_l4Next.l0 k y0 y1 y2 y3 y4 y5 y6 y7 y8 y9) (spec_l4Next.l0 (k + 1) y0 y1 y2 y3 y4 y5 y6 y7 y8 y9))
 | 0 => fun _ _ _ _ _ _ _ _ _ _ r h => by simp [spec_l4Next.l0] at h
 | k + 1 => by
  have ih0 := spec_l4Next.mono_l k
  ·intro y0 y1 y2 y3 y4 y5 y6 y7 y8 y9
   unfold spec_l4Next.l0
   repeat' first
   | (with_reducible exact ih0 _ _ _ _ _ _ _ _ _ _)
   | (with_reducible exact LeO.refl _)
   | (with_reducible exact LeO.none _)
   | (with_reducible refine LeO.ite ?_ ?_)
   | (with_reducible refine LeO.bind ?_ (fun _ => ?_))
   | exact ih0 _ _ _ _ _ _ _ _ _ _
   | exact LeO.none _
   | refine LeO.ite ?_ ?_
   | refine LeO.bind ?_ (fun _ => ?_)
theorem spec_l4Next.mono : ∀ a0 a1 a2 a3 a4 a5 a6 a7 k, LeO (spec_l4Next.f k a0 a1 a2 a3 a4 a5 a6 a7) (spec_l4Next.f (k + 1) a0 a1 a2 a3 a4 a5 a6 a7) := by
 intro a0 a1 a2 a3 a4 a5 a6 a7 k
 have ih0 := spec_l4Next.mono_l k
 unfold spec_l4Next.f
 repeat' first
   | (with_reducible exact ih0 _ _ _ _ _ _ _ _ _ _)
   | (with_reducible exact LeO.refl _)
   | (with_reducible exact LeO.none _)
   | (with_reducible refine LeO.ite ?_ ?_)
   | (with_reducible refine LeO.bind ?_ (fun _ => ?_))
   | exact ih0 _ _ _ _ _ _ _ _ _ _
   | exact LeO.none _
   | refine LeO.ite ?_ ?_
   | refine LeO.bind ?_ (fun _ => ?_)
set_option maxHeartbeats 8000000 in
set_option maxRecDepth 100000 in
theorem spec_l4Next.calls (k : Nat) (a0_0 : Int) (a0_1 : Int) (a0_2 : Int) (a0_3 : Int) (a1_0 : Int) (a1_1 : Int) (a1_2 : Int) (a1_3 : Int) (r : List (S98)) (w : World) (h : spec_l4Next.f k a0_0 a0_1 a0_2 a0_3 a1_0 a1_1 a1_2 a1_3 = some r) :
  Calls Try.prog 78 #[.agg #[.int .i64 a0_0, .int .i64 a0_1, .int .i64 a0_2, .int .i64 a0_3], .agg #[.int .i64 a1_0, .int .i64 a1_1, .int .i64 a1_2, .int .i64 a1_3]] w fun e w' => ∃ v0_ : Value, e = .returned (v0_) ∧ Kd.R k98 98 w' w.heap.size (fun _ => True) v0_ r ∧ Below w.heap.size w w' := by
 have hu27 := Try.underlying27
 have hu22 := Try.underlying22
 have hu98 := Try.underlying98
 have HB := Aside0.mk (Below.refl w.heap.size w)
 have H : (spec_l4Next.l0 k (([] : List (S98))) 0 a0_0 a0_1 a0_2 a0_3 a1_0 a1_1 a1_2 a1_3) = some r := h
 clear h
 obtain ⟨y104, hy104⟩ : ∃ y_ : List (S98), y_ = (([] : List (S98))) := ⟨_, rfl⟩
 replace H : (spec_l4Next.l0 k y104 0 a0_0 a0_1 a0_2 a0_3 a1_0 a1_1 a1_2 a1_3) = some r := by first | (rw [hy104]; with_reducible exact H) | (have H2_ := (Option.bind_some _ _).symm.trans H; rw [hy104]; with_reducible exact H2_) | (have H2_ := (Option.bind_some _ _).symm.trans H; with_reducible exact H2_) | with_reducible exact H | (rw [hy104]; exact H) | exact H
 have Ny104 := Aside0.mk hy104
 clear hy104
 have H' := Aside0.mk H
 clear H
 go_enter Try.func78, Try.ntmps78
 go_wp2_with (first | ((with_reducible refine gate_dst (N := 2) rfl ?_); refine box_event ?hg (N := 2) ?hd (cs := #[.int .i64 a0_0, .int .i64 a0_1, .int .i64 a0_2, .int .i64 a0_3]) (t := 27) ?hr ?_; (case hd => rfl); (case hg => rfl); (case hr => first | (go_simp; done) | (go_simp; rfl)); intro gb102 hg w3 hbox hb; have n0_ := Aside0.mk (below_step (by repeat (first | (with_reducible first | exact HB.out | apply below_alloc | apply pw_below_drewN | apply below_drew1) | exact HB.out)) hb); have n1_ := Aside0.mk (hbox); have n2_ := Aside0.mk ((by rw [hg]; exact (below_size (by repeat (first | (with_reducible first | exact HB.out | apply below_alloc | apply pw_below_drewN | apply below_drew1) | exact HB.out))) : w.heap.size ≤ gb102)); have n3_ := Aside0.mk ((by rw [hg]; exact (below_size (by repeat (first | (with_reducible first | exact HB.out | apply below_alloc | apply pw_below_drewN | apply below_drew1) | exact HB.out))) : w.heap.size ≤ gb102)); clear HB; have HB := n0_; have BK102 := n1_; have GW102 := n2_; have GE102 := n3_; clear n0_ n1_ n2_ n3_; clear hb hbox hg) | ((with_reducible refine gate_dst (N := 3) rfl ?_); refine box_event ?hg (N := 3) ?hd (cs := #[.int .i64 a1_0, .int .i64 a1_1, .int .i64 a1_2, .int .i64 a1_3]) (t := 22) ?hr ?_; (case hd => rfl); (case hg => rfl); (case hr => first | (go_simp; done) | (go_simp; rfl)); intro gb103 hg w4 hbox hb; have n0_ := Aside0.mk (blk_below (g := gb102) (o := .cells #[.int .i64 a0_0, .int .i64 a0_1, .int .i64 a0_2, .int .i64 a0_3] 27 (0, 0)) (by (with_reducible repeat (first | refine blk_drewN ?_ _ | refine blk_drew ?_ | refine blk_alloc ?_ _)); exact BK102.out) hb); have n1_ := Aside0.mk (below_step (by repeat (first | (with_reducible first | exact HB.out | apply below_alloc | apply pw_below_drewN | apply below_drew1 | refine below_set ?_ GE102.out) | exact HB.out)) hb); have n2_ := Aside0.mk (hbox); have n3_ := Aside0.mk ((by rw [hg]; exact (below_size (by repeat (first | (with_reducible first | exact HB.out | apply below_alloc | apply pw_below_drewN | apply below_drew1 | refine below_set ?_ GE102.out) | exact HB.out))) : w.heap.size ≤ gb103)); have n4_ := Aside0.mk ((by rw [hg]; exact (below_size (by repeat (first | (with_reducible first | exact HB.out | apply below_alloc | apply pw_below_drewN | apply below_drew1 | refine below_set ?_ GE102.out) | exact HB.out))) : w.heap.size ≤ gb103)); have n5_ := Aside0.mk ((by rw [hg]; exact Nat.ne_of_lt (blk_lt (g := gb102) (o := .cells #[.int .i64 a0_0, .int .i64 a0_1, .int .i64 a0_2, .int .i64 a0_3] 27 (0, 0)) (by (with_reducible repeat (first | refine blk_drewN ?_ _ | refine blk_drew ?_ | refine blk_alloc ?_ _)); exact BK102.out)) : gb102 ≠ gb103)); have n6_ := Aside0.mk ((by rw [hg]; exact Nat.ne_of_gt (blk_lt (g := gb102) (o := .cells #[.int .i64 a0_0, .int .i64 a0_1, .int .i64 a0_2, .int .i64 a0_3] 27 (0, 0)) (by (with_reducible repeat (first | refine blk_drewN ?_ _ | refine blk_drew ?_ | refine blk_alloc ?_ _)); exact BK102.out)) : gb103 ≠ gb102)); clear BK102; clear HB; have BK102 := n0_; have HB := n1_; have BK103 := n2_; have GW103 := n3_; have GE103 := n4_; have NB102_103 := n5_; have NB103_102 := n6_; clear n0_ n1_ n2_ n3_ n4_ n5_ n6_; clear hb hbox hg) | ((with_reducible refine gate_dst (N := 9) rfl ?_); refine Kd.R_lit k98 _ 98 ?hg (N := 9) ?hd (xs := ([] : List (S98))) (inner := []) (ok := fun _ => True) (okp := fun _ => True) ?hr ?hp (fun _ hk => hk) trivial (Below.refl _ _) (Nat.le_refl _) (by simp) ?_; (case hd => rfl); (case hg => rfl); (case hr => first | (go_simp; done) | (go_simp; rfl)); (case hp => exact (Reps.none _ _)); intro v105 w5 ho6 hb hg_ hnew_; clear hg_ hnew_; (first | rw [← Ny104.out] at ho6 | (simp only [Int.reduceToNat] at ho6; rw [← Ny104.out] at ho6)); have n0_ := Aside0.mk (Kd.R_lower ho6 (below_size (by repeat (first | (with_reducible first | exact HB.out | apply below_alloc | apply pw_below_drewN | apply below_drew1 | refine below_set ?_ GE102.out | refine below_set ?_ GE103.out) | exact HB.out)))); have n1_ := Aside0.mk (blk_below (g := gb102) (o := .cells #[.int .i64 a0_0, .int .i64 a0_1, .int .i64 a0_2, .int .i64 a0_3] 27 (0, 0)) (by (with_reducible repeat (first | refine blk_drewN ?_ _ | refine blk_drew ?_ | refine blk_alloc ?_ _)); exact BK102.out) hb); have n2_ := Aside0.mk (blk_below (g := gb103) (o := .cells #[.int .i64 a1_0, .int .i64 a1_1, .int .i64 a1_2, .int .i64 a1_3] 22 (0, 0)) (by (with_reducible repeat (first | refine blk_drewN ?_ _ | refine blk_drew ?_ | refine blk_alloc ?_ _)); exact BK103.out) hb); have n3_ := Aside0.mk (below_step (by repeat (first | (with_reducible first | exact HB.out | apply below_alloc | apply pw_below_drewN | apply below_drew1 | refine below_set ?_ GE102.out | refine below_set ?_ GE103.out) | exact HB.out)) hb); clear BK102; clear BK103; clear HB; have HO106 := n0_; have BK102 := n1_; have BK103 := n2_; have HB := n3_; clear n0_ n1_ n2_ n3_; clear hb ho6))
 go_loopg [5, 6] k (fun kq v5 v6 w' => ∃ (x5_1 : List (S98)) (x6_1 : Int), v6 = .int .i64 x6_1 ∧ Aside0 (spec_l4Next.l0 kq x5_1 x6_1 a0_0 a0_1 a0_2 a0_3 a1_0 a1_1 a1_2 a1_3 = some r) ∧ Aside0 (kq ≤ k) ∧ Aside0 (Kd.R k98 98 w' w.heap.size (fun _ => True) v5 x5_1) ∧ Aside0 (w'.heap[gb102]? = some (.cells #[.int .i64 a0_0, .int .i64 a0_1, .int .i64 a0_2, .int .i64 a0_3] 27 (0, 0))) ∧ Aside0 (w'.heap[gb103]? = some (.cells #[.int .i64 a1_0, .int .i64 a1_1, .int .i64 a1_2, .int .i64 a1_3] 22 (0, 0))) ∧ Aside0 (Below w.heap.size w w'))
 case atStart => exact ⟨(y104), (0), (by first | rfl | (simp; done) | (simp [*]; done)), H', ⟨Nat.le_refl _⟩, ⟨by (with_reducible repeat (first | apply Kd.R_alloc | apply Kd.R_drewN | apply Kd.R_drew)); exact HO106.out⟩, ⟨by (with_reducible repeat (first | refine blk_drewN ?_ _ | refine blk_drew ?_ | refine blk_alloc ?_ _)); exact BK102.out⟩, ⟨by (with_reducible repeat (first | refine blk_drewN ?_ _ | refine blk_drew ?_ | refine blk_alloc ?_ _)); exact BK103.out⟩, ⟨by repeat (first | (with_reducible first | exact HB.out | apply below_alloc | apply pw_below_drewN | apply below_drew1 | refine below_set ?_ GE102.out | refine below_set ?_ GE103.out) | exact HB.out)⟩⟩
 case round =>
  clear H'
  try clear p2
  obtain ⟨x5_1, x6_1, rfl, HA, HK1, HO_5, BK102, BK103, HB⟩ := hrel
  cases gk with
  | zero => exact absurd HA.out (by simp [spec_l4Next.l0])
  | succ k1 =>
   have H := HA.out
   clear HA
   simp only [spec_l4Next.l0] at H
   by_cases c7 : x6_1 < 16
   ·rw [if_pos c7] at H
    have c7b0 : decide (x6_1 < 16) = true := decide_eq_true c7
    clear c7
    replace H := Option.bind_eq_some_iff.mp H
    obtain ⟨t107, A80, H⟩ := H
    replace H : (if t107 = true then ((xL2Step.f a0_0 a0_1 a0_2 a0_3 a1_0 a1_1 a1_2 a1_3 x6_1).bind fun bt108 => (if bt108.2.2.2.2 > 0 then ((xL4Id.f a0_0 a0_1 a0_2 a0_3 bt108.1 bt108.2.1 bt108.2.2.1 bt108.2.2.2.1).bind fun t114 => (if x5_1.length < 8796093022208 then (spec_l4Next.l0 k1 (x5_1 ++ [(⟨t114, bt108.2.2.2.2⟩ : S98)]) (wrap64 (x6_1 + 1)) a0_0 a0_1 a0_2 a0_3 a1_0 a1_1 a1_2 a1_3) else (none))) else (spec_l4Next.l0 k1 x5_1 (wrap64 (x6_1 + 1)) a0_0 a0_1 a0_2 a0_3 a1_0 a1_1 a1_2 a1_3))) else (spec_l4Next.l0 k1 x5_1 (wrap64 (x6_1 + 1)) a0_0 a0_1 a0_2 a0_3 a1_0 a1_1 a1_2 a1_3)) = some r := H
    have A8 := Aside0.mk A80
    clear A80
    by_cases c9 : t107 = true
    ·subst c9
     have H1 : ((xL2Step.f a0_0 a0_1 a0_2 a0_3 a1_0 a1_1 a1_2 a1_3 x6_1).bind fun bt108 => (if bt108.2.2.2.2 > 0 then ((xL4Id.f a0_0 a0_1 a0_2 a0_3 bt108.1 bt108.2.1 bt108.2.2.1 bt108.2.2.2.1).bind fun t114 => (if x5_1.length < 8796093022208 then (spec_l4Next.l0 k1 (x5_1 ++ [(⟨t114, bt108.2.2.2.2⟩ : S98)]) (wrap64 (x6_1 + 1)) a0_0 a0_1 a0_2 a0_3 a1_0 a1_1 a1_2 a1_3) else (none))) else (spec_l4Next.l0 k1 x5_1 (wrap64 (x6_1 + 1)) a0_0 a0_1 a0_2 a0_3 a1_0 a1_1 a1_2 a1_3))) = some r := by rw [if_pos rfl] at H; exact H
     clear H
     have H := H1
     clear H1
     replace H := Option.bind_eq_some_iff.mp H
     obtain ⟨⟨t108, t109, t110, t111, t112⟩, A100, H⟩ := H
     replace H : (if t112 > 0 then ((xL4Id.f a0_0 a0_1 a0_2 a0_3 t108 t109 t110 t111).bind fun t114 => (if x5_1.length < 8796093022208 then (spec_l4Next.l0 k1 (x5_1 ++ [(⟨t114, t112⟩ : S98)]) (wrap64 (x6_1 + 1)) a0_0 a0_1 a0_2 a0_3 a1_0 a1_1 a1_2 a1_3) else (none))) else (spec_l4Next.l0 k1 x5_1 (wrap64 (x6_1 + 1)) a0_0 a0_1 a0_2 a0_3 a1_0 a1_1 a1_2 a1_3)) = some r := H
     have A10 := Aside0.mk A100
     clear A100
     by_cases c11 : t112 > 0
     ·rw [if_pos c11] at H
      have c11b0 : decide (0 < t112) = true := decide_eq_true c11
      clear c11
      replace H := Option.bind_eq_some_iff.mp H
      obtain ⟨t114, A120, H⟩ := H
      replace H : (if x5_1.length < 8796093022208 then (spec_l4Next.l0 k1 (x5_1 ++ [(⟨t114, t112⟩ : S98)]) (wrap64 (x6_1 + 1)) a0_0 a0_1 a0_2 a0_3 a1_0 a1_1 a1_2 a1_3) else (none)) = some r := H
      have A12 := Aside0.mk A120
      clear A120
      by_cases c13 : x5_1.length < 8796093022208
      ·rw [if_pos c13] at H
       have LMc13 := Aside0.mk c13
       clear c13
       obtain ⟨y115, hy115⟩ : ∃ y_ : List (S98), y_ = (x5_1 ++ [(⟨t114, t112⟩ : S98)]) := ⟨_, rfl⟩
       replace H : (spec_l4Next.l0 k1 y115 (wrap64 (x6_1 + 1)) a0_0 a0_1 a0_2 a0_3 a1_0 a1_1 a1_2 a1_3) = some r := by first | (rw [hy115]; with_reducible exact H) | (have H2_ := (Option.bind_some _ _).symm.trans H; rw [hy115]; with_reducible exact H2_) | (have H2_ := (Option.bind_some _ _).symm.trans H; with_reducible exact H2_) | with_reducible exact H | (rw [hy115]; exact H) | exact H
       have Ny115 := Aside0.mk hy115
       clear hy115
       have H' := Aside0.mk H
       clear H
       have hnb14 := NB102_103.out
       have hnc14 := NB103_102.out
       have hcz15_0 : wr.cell? ⟨gb102, 0, none⟩ = some (.int .i64 a0_0) := (blk_cell BK102.out 0).trans rfl
       have hcz15_1 : wr.cell? ⟨gb102, 1, none⟩ = some (.int .i64 a0_1) := (blk_cell BK102.out 1).trans rfl
       have hcz15_2 : wr.cell? ⟨gb102, 2, none⟩ = some (.int .i64 a0_2) := (blk_cell BK102.out 2).trans rfl
       have hcz15_3 : wr.cell? ⟨gb102, 3, none⟩ = some (.int .i64 a0_3) := (blk_cell BK102.out 3).trans rfl
       have hfz15_0 := blk_frozen BK102.out 0
       have hfz15_1 := blk_frozen BK102.out 1
       have hfz15_2 := blk_frozen BK102.out 2
       have hfz15_3 := blk_frozen BK102.out 3
       go_wp2_with (first | ((with_reducible refine gate_callee (f := 61) rfl ?_); refine goesL_ (some 16) rfl rfl Try.func61 (by kernel_rfl) rfl #[.agg #[.int .i64 a0_0, .int .i64 a0_1, .int .i64 a0_2, .int .i64 a0_3], .int .i64 x6_1] rfl (by (try simp only [List.map_toArray, List.map_cons, List.map_nil]); first | done | rfl | (simp only [List.length_drop, List.length_take]; rfl)) ?_; (with_reducible refine (xL2Set.calls a0_0 a0_1 a0_2 a0_3 x6_1 true _ A8.out).mono ?_); rintro e w16 ⟨rfl, hb⟩; refine ⟨_, rfl, ?_⟩; have n0_ := Aside0.mk (Kd.R_below (by (with_reducible repeat (first | apply Kd.R_alloc | apply Kd.R_drewN | apply Kd.R_drew)); exact HO_5.out) hb); have n1_ := Aside0.mk (blk_below (g := gb102) (o := .cells #[.int .i64 a0_0, .int .i64 a0_1, .int .i64 a0_2, .int .i64 a0_3] 27 (0, 0)) (by (with_reducible repeat (first | refine blk_drewN ?_ _ | refine blk_drew ?_ | refine blk_alloc ?_ _)); exact BK102.out) hb); have n2_ := Aside0.mk (blk_below (g := gb103) (o := .cells #[.int .i64 a1_0, .int .i64 a1_1, .int .i64 a1_2, .int .i64 a1_3] 22 (0, 0)) (by (with_reducible repeat (first | refine blk_drewN ?_ _ | refine blk_drew ?_ | refine blk_alloc ?_ _)); exact BK103.out) hb); have n3_ := Aside0.mk (below_step (by repeat (first | (with_reducible first | exact HB.out | apply below_alloc | apply pw_below_drewN | apply below_drew1 | refine below_set ?_ GE102.out | refine below_set ?_ GE103.out) | exact HB.out)) hb); clear HO_5; clear BK102; clear BK103; clear HB; have HO_5 := n0_; have BK102 := n1_; have BK103 := n2_; have HB := n3_; clear n0_ n1_ n2_ n3_; (try clear hb); (try clear hb2); (try clear hk); (try clear hi); have hcz17_0 : w16.cell? ⟨gb102, 0, none⟩ = some (.int .i64 a0_0) := (blk_cell BK102.out 0).trans rfl; have hcz17_1 : w16.cell? ⟨gb102, 1, none⟩ = some (.int .i64 a0_1) := (blk_cell BK102.out 1).trans rfl; have hcz17_2 : w16.cell? ⟨gb102, 2, none⟩ = some (.int .i64 a0_2) := (blk_cell BK102.out 2).trans rfl; have hcz17_3 : w16.cell? ⟨gb102, 3, none⟩ = some (.int .i64 a0_3) := (blk_cell BK102.out 3).trans rfl; have hfz17_0 := blk_frozen BK102.out 0; have hfz17_1 := blk_frozen BK102.out 1; have hfz17_2 := blk_frozen BK102.out 2; have hfz17_3 := blk_frozen BK102.out 3; have hcz18_0 : w16.cell? ⟨gb103, 0, none⟩ = some (.int .i64 a1_0) := (blk_cell BK103.out 0).trans rfl; have hcz18_1 : w16.cell? ⟨gb103, 1, none⟩ = some (.int .i64 a1_1) := (blk_cell BK103.out 1).trans rfl; have hcz18_2 : w16.cell? ⟨gb103, 2, none⟩ = some (.int .i64 a1_2) := (blk_cell BK103.out 2).trans rfl; have hcz18_3 : w16.cell? ⟨gb103, 3, none⟩ = some (.int .i64 a1_3) := (blk_cell BK103.out 3).trans rfl; have hfz18_0 := blk_frozen BK103.out 0; have hfz18_1 := blk_frozen BK103.out 1; have hfz18_2 := blk_frozen BK103.out 2; have hfz18_3 := blk_frozen BK103.out 3) | ((with_reducible refine gate_callee (f := 60) rfl ?_); refine goesL_ (some 22) rfl rfl Try.func60 (by kernel_rfl) rfl #[.agg #[.int .i64 a0_0, .int .i64 a0_1, .int .i64 a0_2, .int .i64 a0_3], .agg #[.int .i64 a1_0, .int .i64 a1_1, .int .i64 a1_2, .int .i64 a1_3], .int .i64 x6_1] rfl (by (try simp only [List.map_toArray, List.map_cons, List.map_nil]); first | done | rfl | (simp only [List.length_drop, List.length_take]; rfl)) ?_; (with_reducible refine (xL2Step.calls a0_0 a0_1 a0_2 a0_3 a1_0 a1_1 a1_2 a1_3 x6_1 t108 t109 t110 t111 t112 _ A10.out).mono ?_); rintro e w19 ⟨rfl, hb⟩; refine ⟨_, rfl, ?_⟩; have n0_ := Aside0.mk (Kd.R_below (by (with_reducible repeat (first | apply Kd.R_alloc | apply Kd.R_drewN | apply Kd.R_drew)); exact HO_5.out) hb); have n1_ := Aside0.mk (blk_below (g := gb102) (o := .cells #[.int .i64 a0_0, .int .i64 a0_1, .int .i64 a0_2, .int .i64 a0_3] 27 (0, 0)) (by (with_reducible repeat (first | refine blk_drewN ?_ _ | refine blk_drew ?_ | refine blk_alloc ?_ _)); exact BK102.out) hb); have n2_ := Aside0.mk (blk_below (g := gb103) (o := .cells #[.int .i64 a1_0, .int .i64 a1_1, .int .i64 a1_2, .int .i64 a1_3] 22 (0, 0)) (by (with_reducible repeat (first | refine blk_drewN ?_ _ | refine blk_drew ?_ | refine blk_alloc ?_ _)); exact BK103.out) hb); have n3_ := Aside0.mk (below_step (by repeat (first | (with_reducible first | exact HB.out | apply below_alloc | apply pw_below_drewN | apply below_drew1 | refine below_set ?_ GE102.out | refine below_set ?_ GE103.out) | exact HB.out)) hb); clear HO_5; clear BK102; clear BK103; clear HB; have HO_5 := n0_; have BK102 := n1_; have BK103 := n2_; have HB := n3_; clear n0_ n1_ n2_ n3_; (try clear hb); (try clear hb2); (try clear hk); (try clear hi)) | ((with_reducible refine gate_dst (N := 7) rfl ?_); refine box_event ?hg (N := 7) ?hd (cs := #[.int .i64 0, .int .i64 0, .int .i64 0, .int .i64 0]) (t := 22) ?hr ?_; (case hd => rfl); (case hg => rfl); (case hr => first | (go_simp; done) | (go_simp; rfl)); intro gb113 hg w20 hbox hb; have n0_ := Aside0.mk (Kd.R_below (by (with_reducible repeat (first | apply Kd.R_alloc | apply Kd.R_drewN | apply Kd.R_drew)); exact HO_5.out) hb); have n1_ := Aside0.mk (blk_below (g := gb102) (o := .cells #[.int .i64 a0_0, .int .i64 a0_1, .int .i64 a0_2, .int .i64 a0_3] 27 (0, 0)) (by (with_reducible repeat (first | refine blk_drewN ?_ _ | refine blk_drew ?_ | refine blk_alloc ?_ _)); exact BK102.out) hb); have n2_ := Aside0.mk (blk_below (g := gb103) (o := .cells #[.int .i64 a1_0, .int .i64 a1_1, .int .i64 a1_2, .int .i64 a1_3] 22 (0, 0)) (by (with_reducible repeat (first | refine blk_drewN ?_ _ | refine blk_drew ?_ | refine blk_alloc ?_ _)); exact BK103.out) hb); have n3_ := Aside0.mk (below_step (by repeat (first | (with_reducible first | exact HB.out | apply below_alloc | apply pw_below_drewN | apply below_drew1 | refine below_set ?_ GE102.out | refine below_set ?_ GE103.out) | exact HB.out)) hb); have n4_ := Aside0.mk (hbox); have n5_ := Aside0.mk ((by rw [hg]; exact (below_size (by repeat (first | (with_reducible first | exact HB.out | apply below_alloc | apply pw_below_drewN | apply below_drew1 | refine below_set ?_ GE102.out | refine below_set ?_ GE103.out) | exact HB.out))) : w.heap.size ≤ gb113)); have n6_ := Aside0.mk ((by rw [hg]; exact (below_size (by repeat (first | (with_reducible first | exact HB.out | apply below_alloc | apply pw_below_drewN | apply below_drew1 | refine below_set ?_ GE102.out | refine below_set ?_ GE103.out) | exact HB.out))) : w.heap.size ≤ gb113)); have n7_ := Aside0.mk ((by rw [hg]; exact Nat.ne_of_lt (blk_lt (g := gb102) (o := .cells #[.int .i64 a0_0, .int .i64 a0_1, .int .i64 a0_2, .int .i64 a0_3] 27 (0, 0)) (by (with_reducible repeat (first | refine blk_drewN ?_ _ | refine blk_drew ?_ | refine blk_alloc ?_ _)); exact BK102.out)) : gb102 ≠ gb113)); have n8_ := Aside0.mk ((by rw [hg]; exact Nat.ne_of_gt (blk_lt (g := gb102) (o := .cells #[.int .i64 a0_0, .int .i64 a0_1, .int .i64 a0_2, .int .i64 a0_3] 27 (0, 0)) (by (with_reducible repeat (first | refine blk_drewN ?_ _ | refine blk_drew ?_ | refine blk_alloc ?_ _)); exact BK102.out)) : gb113 ≠ gb102)); have n9_ := Aside0.mk ((by rw [hg]; exact Nat.ne_of_lt (blk_lt (g := gb103) (o := .cells #[.int .i64 a1_0, .int .i64 a1_1, .int .i64 a1_2, .int .i64 a1_3] 22 (0, 0)) (by (with_reducible repeat (first | refine blk_drewN ?_ _ | refine blk_drew ?_ | refine blk_alloc ?_ _)); exact BK103.out)) : gb103 ≠ gb113)); have n10_ := Aside0.mk ((by rw [hg]; exact Nat.ne_of_gt (blk_lt (g := gb103) (o := .cells #[.int .i64 a1_0, .int .i64 a1_1, .int .i64 a1_2, .int .i64 a1_3] 22 (0, 0)) (by (with_reducible repeat (first | refine blk_drewN ?_ _ | refine blk_drew ?_ | refine blk_alloc ?_ _)); exact BK103.out)) : gb113 ≠ gb103)); clear HO_5; clear BK102; clear BK103; clear HB; have HO_5 := n0_; have BK102 := n1_; have BK103 := n2_; have HB := n3_; have BK113 := n4_; have GW113 := n5_; have GE113 := n6_; have NB102_113 := n7_; have NB113_102 := n8_; have NB103_113 := n9_; have NB113_103 := n10_; clear n0_ n1_ n2_ n3_ n4_ n5_ n6_ n7_ n8_ n9_ n10_; clear hb hbox hg; have hnb21 := NB113_102.out; have hnc21 := NB102_113.out; have hnb22 := NB113_103.out; have hnc22 := NB103_113.out; have hcz23_0 : w20.cell? ⟨gb113, 0, none⟩ = some (.int .i64 0) := (blk_cell BK113.out 0).trans rfl; have hcz23_1 : w20.cell? ⟨gb113, 1, none⟩ = some (.int .i64 0) := (blk_cell BK113.out 1).trans rfl; have hcz23_2 : w20.cell? ⟨gb113, 2, none⟩ = some (.int .i64 0) := (blk_cell BK113.out 2).trans rfl; have hcz23_3 : w20.cell? ⟨gb113, 3, none⟩ = some (.int .i64 0) := (blk_cell BK113.out 3).trans rfl; have hfz23_0 := blk_frozen BK113.out 0; have hfz23_1 := blk_frozen BK113.out 1; have hfz23_2 := blk_frozen BK113.out 2; have hfz23_3 := blk_frozen BK113.out 3; have hcz24_0 : w20.cell? ⟨gb102, 0, none⟩ = some (.int .i64 a0_0) := (blk_cell BK102.out 0).trans rfl; have hcz24_1 : w20.cell? ⟨gb102, 1, none⟩ = some (.int .i64 a0_1) := (blk_cell BK102.out 1).trans rfl; have hcz24_2 : w20.cell? ⟨gb102, 2, none⟩ = some (.int .i64 a0_2) := (blk_cell BK102.out 2).trans rfl; have hcz24_3 : w20.cell? ⟨gb102, 3, none⟩ = some (.int .i64 a0_3) := (blk_cell BK102.out 3).trans rfl; have hfz24_0 := blk_frozen BK102.out 0; have hfz24_1 := blk_frozen BK102.out 1; have hfz24_2 := blk_frozen BK102.out 2; have hfz24_3 := blk_frozen BK102.out 3) | ((with_reducible refine gate_callee (f := 50) rfl ?_); refine goesL_ (some 30) rfl rfl Try.func50 (by kernel_rfl) rfl #[.agg #[.int .i64 a0_0, .int .i64 a0_1, .int .i64 a0_2, .int .i64 a0_3], .agg #[.int .i64 t108, .int .i64 t109, .int .i64 t110, .int .i64 t111]] rfl (by (try simp only [List.map_toArray, List.map_cons, List.map_nil]); first | done | rfl | (simp only [List.length_drop, List.length_take]; rfl)) ?_; (with_reducible refine (xL4Id.calls a0_0 a0_1 a0_2 a0_3 t108 t109 t110 t111 t114 _ A12.out).mono ?_); rintro e w25 ⟨rfl, hb⟩; refine ⟨_, rfl, ?_⟩; have n0_ := Aside0.mk (Kd.R_below (by (with_reducible repeat (first | apply Kd.R_alloc | apply Kd.R_drewN | apply Kd.R_drew)); exact (Kd.R_mono (Kd.R_far (p := ⟨gb113, 3, none⟩) (Kd.R_far (p := ⟨gb113, 2, none⟩) (Kd.R_far (p := ⟨gb113, 1, none⟩) (Kd.R_far (p := ⟨gb113, 0, none⟩) (Kd.R_types HO_5.out BK113.out (by decide)) (fun _ hk => hk.2) (.int .i64 t108)) (fun _ hk => hk.2) (.int .i64 t109)) (fun _ hk => hk.2) (.int .i64 t110)) (fun _ hk => hk.2) (.int .i64 t111)) (fun _ h_ => h_.1))) hb); have n1_ := Aside0.mk (blk_below (g := gb102) (o := .cells #[.int .i64 a0_0, .int .i64 a0_1, .int .i64 a0_2, .int .i64 a0_3] 27 (0, 0)) (by (with_reducible repeat (first | refine blk_drewN ?_ _ | refine blk_drew ?_ | refine blk_alloc ?_ _)); refine blk_far ?_ NB102_113.out _; (with_reducible repeat (first | refine blk_drewN ?_ _ | refine blk_drew ?_ | refine blk_alloc ?_ _)); refine blk_far ?_ NB102_113.out _; (with_reducible repeat (first | refine blk_drewN ?_ _ | refine blk_drew ?_ | refine blk_alloc ?_ _)); refine blk_far ?_ NB102_113.out _; (with_reducible repeat (first | refine blk_drewN ?_ _ | refine blk_drew ?_ | refine blk_alloc ?_ _)); refine blk_far ?_ NB102_113.out _; (with_reducible repeat (first | refine blk_drewN ?_ _ | refine blk_drew ?_ | refine blk_alloc ?_ _)); exact BK102.out) hb); have n2_ := Aside0.mk (blk_below (g := gb103) (o := .cells #[.int .i64 a1_0, .int .i64 a1_1, .int .i64 a1_2, .int .i64 a1_3] 22 (0, 0)) (by (with_reducible repeat (first | refine blk_drewN ?_ _ | refine blk_drew ?_ | refine blk_alloc ?_ _)); refine blk_far ?_ NB103_113.out _; (with_reducible repeat (first | refine blk_drewN ?_ _ | refine blk_drew ?_ | refine blk_alloc ?_ _)); refine blk_far ?_ NB103_113.out _; (with_reducible repeat (first | refine blk_drewN ?_ _ | refine blk_drew ?_ | refine blk_alloc ?_ _)); refine blk_far ?_ NB103_113.out _; (with_reducible repeat (first | refine blk_drewN ?_ _ | refine blk_drew ?_ | refine blk_alloc ?_ _)); refine blk_far ?_ NB103_113.out _; (with_reducible repeat (first | refine blk_drewN ?_ _ | refine blk_drew ?_ | refine blk_alloc ?_ _)); exact BK103.out) hb); have n3_ := Aside0.mk (blk_below (g := gb113) (o := .cells #[.int .i64 t108, .int .i64 t109, .int .i64 t110, .int .i64 t111] 22 (0, 0)) (by (with_reducible repeat (first | refine blk_drewN ?_ _ | refine blk_drew ?_ | refine blk_alloc ?_ _)); refine blk_put (cs := #[.int .i64 t108, .int .i64 t109, .int .i64 t110, .int .i64 0]) ?_ 3 _ rfl; (with_reducible repeat (first | refine blk_drewN ?_ _ | refine blk_drew ?_ | refine blk_alloc ?_ _)); refine blk_put (cs := #[.int .i64 t108, .int .i64 t109, .int .i64 0, .int .i64 0]) ?_ 2 _ rfl; (with_reducible repeat (first | refine blk_drewN ?_ _ | refine blk_drew ?_ | refine blk_alloc ?_ _)); refine blk_put (cs := #[.int .i64 t108, .int .i64 0, .int .i64 0, .int .i64 0]) ?_ 1 _ rfl; (with_reducible repeat (first | refine blk_drewN ?_ _ | refine blk_drew ?_ | refine blk_alloc ?_ _)); refine blk_put (cs := #[.int .i64 0, .int .i64 0, .int .i64 0, .int .i64 0]) ?_ 0 _ rfl; (with_reducible repeat (first | refine blk_drewN ?_ _ | refine blk_drew ?_ | refine blk_alloc ?_ _)); exact BK113.out) hb); have n4_ := Aside0.mk (below_step (by repeat (first | (with_reducible first | exact HB.out | apply below_alloc | apply pw_below_drewN | apply below_drew1 | refine below_set ?_ GE102.out | refine below_set ?_ GE103.out | refine below_set ?_ GE113.out) | exact HB.out)) hb); clear HO_5; clear BK102; clear BK103; clear BK113; clear HB; have HO_5 := n0_; have BK102 := n1_; have BK103 := n2_; have BK113 := n3_; have HB := n4_; clear n0_ n1_ n2_ n3_ n4_; (try clear hb); (try clear hb2); (try clear hk); (try clear hi)) | ((with_reducible refine gate_builtin (b := .append) (xs := #[.tmp 27, .tmp 33]) rfl ?_); at_builtin; refine Kd.R_append k98 (w0 := w) w.heap.size rfl (.tmp 27) (.tmp 33) 95 98 (.agg #[(.int .i64 0), (.int .i64 0)]) 16 rfl Try.underlying95 info98 rfl (by decide) (by omega) u5 x5_1 (⟨t114, t112⟩ : S98) [.int .i64 t114, .int .i64 t112] (fun _ => True) (fun _ => False) rfl rfl ?aP (fun _ hk => hk.elim) ?aF ?aO ?aB ?aS ?aL ?_; (case aP => exact k98_mkM _ _ _ (⟨t114, t112⟩ : S98)); (case aB => exact (by repeat (first | (with_reducible first | exact HB.out | apply below_alloc | apply pw_below_drewN | apply below_drew1 | refine below_set ?_ GE102.out | refine below_set ?_ GE103.out | refine below_set ?_ GE113.out) | exact HB.out))); (case aF => exact (fun _ _ => trivial)); (case aO => exact (by (with_reducible repeat (first | apply Kd.R_alloc | apply Kd.R_drewN | apply Kd.R_drew)); exact HO_5.out)); (case aS => exact (below_size (by repeat (first | (with_reducible first | exact HB.out | apply below_alloc | apply pw_below_drewN | apply below_drew1 | refine below_set ?_ GE102.out | refine below_set ?_ GE103.out | refine below_set ?_ GE113.out) | exact HB.out)))); (case aL => have := LMc13.out; omega); intro v116 w26 ho hb hg hat; rw [← Ny115.out] at ho; have n0_ := Aside0.mk (blk_grown (g := gb102) (o := .cells #[.int .i64 a0_0, .int .i64 a0_1, .int .i64 a0_2, .int .i64 a0_3] 27 (0, 0)) (by (with_reducible repeat (first | refine blk_drewN ?_ _ | refine blk_drew ?_ | refine blk_alloc ?_ _)); exact BK102.out) hg (Kd.R_ne HO_5.out BK102.out (by decide))); have n1_ := Aside0.mk (blk_grown (g := gb103) (o := .cells #[.int .i64 a1_0, .int .i64 a1_1, .int .i64 a1_2, .int .i64 a1_3] 22 (0, 0)) (by (with_reducible repeat (first | refine blk_drewN ?_ _ | refine blk_drew ?_ | refine blk_alloc ?_ _)); exact BK103.out) hg (Kd.R_ne HO_5.out BK103.out (by decide))); have n2_ := Aside0.mk (blk_grown (g := gb113) (o := .cells #[.int .i64 t108, .int .i64 t109, .int .i64 t110, .int .i64 t111] 22 (0, 0)) (by (with_reducible repeat (first | refine blk_drewN ?_ _ | refine blk_drew ?_ | refine blk_alloc ?_ _)); exact BK113.out) hg (Kd.R_ne HO_5.out BK113.out (by decide))); have n3_ := Aside0.mk (hb); have n4_ := Aside0.mk (ho); clear BK102; clear BK103; clear BK113; clear HB; clear HO_5; have BK102 := n0_; have BK103 := n1_; have BK113 := n2_; have HB := n3_; have HO117 := n4_; clear n0_ n1_ n2_ n3_ n4_; clear ho hb hg hat))
       go_roundg k1
       case measure => have := HK1.out; omega
       case rel => exact ⟨(y115), (wrap64 (x6_1 + 1)), (by first | rfl | (simp; done) | (simp [*]; done)), H', ⟨by have := HK1.out; omega⟩, ⟨by (with_reducible repeat (first | apply Kd.R_alloc | apply Kd.R_drewN | apply Kd.R_drew)); exact HO117.out⟩, ⟨by (with_reducible repeat (first | refine blk_drewN ?_ _ | refine blk_drew ?_ | refine blk_alloc ?_ _)); exact BK102.out⟩, ⟨by (with_reducible repeat (first | refine blk_drewN ?_ _ | refine blk_drew ?_ | refine blk_alloc ?_ _)); exact BK103.out⟩, ⟨by repeat (first | (with_reducible first | exact HB.out | apply below_alloc | apply pw_below_drewN | apply below_drew1 | refine below_set ?_ GE102.out | refine below_set ?_ GE103.out | refine below_set ?_ GE113.out) | exact HB.out)⟩⟩
      ·rw [if_neg c13] at H
       exact absurd H (by simp)
     ·rw [if_neg c11] at H
      have c11b0 : decide (0 < t112) = false := decide_eq_false c11
      clear c11
      have H' := Aside0.mk H
      clear H
      have hnb27 := NB102_103.out
      have hnc27 := NB103_102.out
      have hcz28_0 : wr.cell? ⟨gb102, 0, none⟩ = some (.int .i64 a0_0) := (blk_cell BK102.out 0).trans rfl
      have hcz28_1 : wr.cell? ⟨gb102, 1, none⟩ = some (.int .i64 a0_1) := (blk_cell BK102.out 1).trans rfl
      have hcz28_2 : wr.cell? ⟨gb102, 2, none⟩ = some (.int .i64 a0_2) := (blk_cell BK102.out 2).trans rfl
      have hcz28_3 : wr.cell? ⟨gb102, 3, none⟩ = some (.int .i64 a0_3) := (blk_cell BK102.out 3).trans rfl
      have hfz28_0 := blk_frozen BK102.out 0
      have hfz28_1 := blk_frozen BK102.out 1
      have hfz28_2 := blk_frozen BK102.out 2
      have hfz28_3 := blk_frozen BK102.out 3
      go_wp2_with (first | ((with_reducible refine gate_callee (f := 61) rfl ?_); refine goesL_ (some 16) rfl rfl Try.func61 (by kernel_rfl) rfl #[.agg #[.int .i64 a0_0, .int .i64 a0_1, .int .i64 a0_2, .int .i64 a0_3], .int .i64 x6_1] rfl (by (try simp only [List.map_toArray, List.map_cons, List.map_nil]); first | done | rfl | (simp only [List.length_drop, List.length_take]; rfl)) ?_; (with_reducible refine (xL2Set.calls a0_0 a0_1 a0_2 a0_3 x6_1 true _ A8.out).mono ?_); rintro e w29 ⟨rfl, hb⟩; refine ⟨_, rfl, ?_⟩; have n0_ := Aside0.mk (Kd.R_below (by (with_reducible repeat (first | apply Kd.R_alloc | apply Kd.R_drewN | apply Kd.R_drew)); exact HO_5.out) hb); have n1_ := Aside0.mk (blk_below (g := gb102) (o := .cells #[.int .i64 a0_0, .int .i64 a0_1, .int .i64 a0_2, .int .i64 a0_3] 27 (0, 0)) (by (with_reducible repeat (first | refine blk_drewN ?_ _ | refine blk_drew ?_ | refine blk_alloc ?_ _)); exact BK102.out) hb); have n2_ := Aside0.mk (blk_below (g := gb103) (o := .cells #[.int .i64 a1_0, .int .i64 a1_1, .int .i64 a1_2, .int .i64 a1_3] 22 (0, 0)) (by (with_reducible repeat (first | refine blk_drewN ?_ _ | refine blk_drew ?_ | refine blk_alloc ?_ _)); exact BK103.out) hb); have n3_ := Aside0.mk (below_step (by repeat (first | (with_reducible first | exact HB.out | apply below_alloc | apply pw_below_drewN | apply below_drew1 | refine below_set ?_ GE102.out | refine below_set ?_ GE103.out) | exact HB.out)) hb); clear HO_5; clear BK102; clear BK103; clear HB; have HO_5 := n0_; have BK102 := n1_; have BK103 := n2_; have HB := n3_; clear n0_ n1_ n2_ n3_; (try clear hb); (try clear hb2); (try clear hk); (try clear hi); have hcz30_0 : w29.cell? ⟨gb102, 0, none⟩ = some (.int .i64 a0_0) := (blk_cell BK102.out 0).trans rfl; have hcz30_1 : w29.cell? ⟨gb102, 1, none⟩ = some (.int .i64 a0_1) := (blk_cell BK102.out 1).trans rfl; have hcz30_2 : w29.cell? ⟨gb102, 2, none⟩ = some (.int .i64 a0_2) := (blk_cell BK102.out 2).trans rfl; have hcz30_3 : w29.cell? ⟨gb102, 3, none⟩ = some (.int .i64 a0_3) := (blk_cell BK102.out 3).trans rfl; have hfz30_0 := blk_frozen BK102.out 0; have hfz30_1 := blk_frozen BK102.out 1; have hfz30_2 := blk_frozen BK102.out 2; have hfz30_3 := blk_frozen BK102.out 3; have hcz31_0 : w29.cell? ⟨gb103, 0, none⟩ = some (.int .i64 a1_0) := (blk_cell BK103.out 0).trans rfl; have hcz31_1 : w29.cell? ⟨gb103, 1, none⟩ = some (.int .i64 a1_1) := (blk_cell BK103.out 1).trans rfl; have hcz31_2 : w29.cell? ⟨gb103, 2, none⟩ = some (.int .i64 a1_2) := (blk_cell BK103.out 2).trans rfl; have hcz31_3 : w29.cell? ⟨gb103, 3, none⟩ = some (.int .i64 a1_3) := (blk_cell BK103.out 3).trans rfl; have hfz31_0 := blk_frozen BK103.out 0; have hfz31_1 := blk_frozen BK103.out 1; have hfz31_2 := blk_frozen BK103.out 2; have hfz31_3 := blk_frozen BK103.out 3) | ((with_reducible refine gate_callee (f := 60) rfl ?_); refine goesL_ (some 22) rfl rfl Try.func60 (by kernel_rfl) rfl #[.agg #[.int .i64 a0_0, .int .i64 a0_1, .int .i64 a0_2, .int .i64 a0_3], .agg #[.int .i64 a1_0, .int .i64 a1_1, .int .i64 a1_2, .int .i64 a1_3], .int .i64 x6_1] rfl (by (try simp only [List.map_toArray, List.map_cons, List.map_nil]); first | done | rfl | (simp only [List.length_drop, List.length_take]; rfl)) ?_; (with_reducible refine (xL2Step.calls a0_0 a0_1 a0_2 a0_3 a1_0 a1_1 a1_2 a1_3 x6_1 t108 t109 t110 t111 t112 _ A10.out).mono ?_); rintro e w32 ⟨rfl, hb⟩; refine ⟨_, rfl, ?_⟩; have n0_ := Aside0.mk (Kd.R_below (by (with_reducible repeat (first | apply Kd.R_alloc | apply Kd.R_drewN | apply Kd.R_drew)); exact HO_5.out) hb); have n1_ := Aside0.mk (blk_below (g := gb102) (o := .cells #[.int .i64 a0_0, .int .i64 a0_1, .int .i64 a0_2, .int .i64 a0_3] 27 (0, 0)) (by (with_reducible repeat (first | refine blk_drewN ?_ _ | refine blk_drew ?_ | refine blk_alloc ?_ _)); exact BK102.out) hb); have n2_ := Aside0.mk (blk_below (g := gb103) (o := .cells #[.int .i64 a1_0, .int .i64 a1_1, .int .i64 a1_2, .int .i64 a1_3] 22 (0, 0)) (by (with_reducible repeat (first | refine blk_drewN ?_ _ | refine blk_drew ?_ | refine blk_alloc ?_ _)); exact BK103.out) hb); have n3_ := Aside0.mk (below_step (by repeat (first | (with_reducible first | exact HB.out | apply below_alloc | apply pw_below_drewN | apply below_drew1 | refine below_set ?_ GE102.out | refine below_set ?_ GE103.out) | exact HB.out)) hb); clear HO_5; clear BK102; clear BK103; clear HB; have HO_5 := n0_; have BK102 := n1_; have BK103 := n2_; have HB := n3_; clear n0_ n1_ n2_ n3_; (try clear hb); (try clear hb2); (try clear hk); (try clear hi)) | ((with_reducible refine gate_dst (N := 7) rfl ?_); refine box_event ?hg (N := 7) ?hd (cs := #[.int .i64 0, .int .i64 0, .int .i64 0, .int .i64 0]) (t := 22) ?hr ?_; (case hd => rfl); (case hg => rfl); (case hr => first | (go_simp; done) | (go_simp; rfl)); intro gb113 hg w33 hbox hb; have n0_ := Aside0.mk (Kd.R_below (by (with_reducible repeat (first | apply Kd.R_alloc | apply Kd.R_drewN | apply Kd.R_drew)); exact HO_5.out) hb); have n1_ := Aside0.mk (blk_below (g := gb102) (o := .cells #[.int .i64 a0_0, .int .i64 a0_1, .int .i64 a0_2, .int .i64 a0_3] 27 (0, 0)) (by (with_reducible repeat (first | refine blk_drewN ?_ _ | refine blk_drew ?_ | refine blk_alloc ?_ _)); exact BK102.out) hb); have n2_ := Aside0.mk (blk_below (g := gb103) (o := .cells #[.int .i64 a1_0, .int .i64 a1_1, .int .i64 a1_2, .int .i64 a1_3] 22 (0, 0)) (by (with_reducible repeat (first | refine blk_drewN ?_ _ | refine blk_drew ?_ | refine blk_alloc ?_ _)); exact BK103.out) hb); have n3_ := Aside0.mk (below_step (by repeat (first | (with_reducible first | exact HB.out | apply below_alloc | apply pw_below_drewN | apply below_drew1 | refine below_set ?_ GE102.out | refine below_set ?_ GE103.out) | exact HB.out)) hb); have n4_ := Aside0.mk (hbox); have n5_ := Aside0.mk ((by rw [hg]; exact (below_size (by repeat (first | (with_reducible first | exact HB.out | apply below_alloc | apply pw_below_drewN | apply below_drew1 | refine below_set ?_ GE102.out | refine below_set ?_ GE103.out) | exact HB.out))) : w.heap.size ≤ gb113)); have n6_ := Aside0.mk ((by rw [hg]; exact (below_size (by repeat (first | (with_reducible first | exact HB.out | apply below_alloc | apply pw_below_drewN | apply below_drew1 | refine below_set ?_ GE102.out | refine below_set ?_ GE103.out) | exact HB.out))) : w.heap.size ≤ gb113)); have n7_ := Aside0.mk ((by rw [hg]; exact Nat.ne_of_lt (blk_lt (g := gb102) (o := .cells #[.int .i64 a0_0, .int .i64 a0_1, .int .i64 a0_2, .int .i64 a0_3] 27 (0, 0)) (by (with_reducible repeat (first | refine blk_drewN ?_ _ | refine blk_drew ?_ | refine blk_alloc ?_ _)); exact BK102.out)) : gb102 ≠ gb113)); have n8_ := Aside0.mk ((by rw [hg]; exact Nat.ne_of_gt (blk_lt (g := gb102) (o := .cells #[.int .i64 a0_0, .int .i64 a0_1, .int .i64 a0_2, .int .i64 a0_3] 27 (0, 0)) (by (with_reducible repeat (first | refine blk_drewN ?_ _ | refine blk_drew ?_ | refine blk_alloc ?_ _)); exact BK102.out)) : gb113 ≠ gb102)); have n9_ := Aside0.mk ((by rw [hg]; exact Nat.ne_of_lt (blk_lt (g := gb103) (o := .cells #[.int .i64 a1_0, .int .i64 a1_1, .int .i64 a1_2, .int .i64 a1_3] 22 (0, 0)) (by (with_reducible repeat (first | refine blk_drewN ?_ _ | refine blk_drew ?_ | refine blk_alloc ?_ _)); exact BK103.out)) : gb103 ≠ gb113)); have n10_ := Aside0.mk ((by rw [hg]; exact Nat.ne_of_gt (blk_lt (g := gb103) (o := .cells #[.int .i64 a1_0, .int .i64 a1_1, .int .i64 a1_2, .int .i64 a1_3] 22 (0, 0)) (by (with_reducible repeat (first | refine blk_drewN ?_ _ | refine blk_drew ?_ | refine blk_alloc ?_ _)); exact BK103.out)) : gb113 ≠ gb103)); clear HO_5; clear BK102; clear BK103; clear HB; have HO_5 := n0_; have BK102 := n1_; have BK103 := n2_; have HB := n3_; have BK113 := n4_; have GW113 := n5_; have GE113 := n6_; have NB102_113 := n7_; have NB113_102 := n8_; have NB103_113 := n9_; have NB113_103 := n10_; clear n0_ n1_ n2_ n3_ n4_ n5_ n6_ n7_ n8_ n9_ n10_; clear hb hbox hg; have hnb34 := NB113_102.out; have hnc34 := NB102_113.out; have hnb35 := NB113_103.out; have hnc35 := NB103_113.out; have hcz36_0 : w33.cell? ⟨gb113, 0, none⟩ = some (.int .i64 0) := (blk_cell BK113.out 0).trans rfl; have hcz36_1 : w33.cell? ⟨gb113, 1, none⟩ = some (.int .i64 0) := (blk_cell BK113.out 1).trans rfl; have hcz36_2 : w33.cell? ⟨gb113, 2, none⟩ = some (.int .i64 0) := (blk_cell BK113.out 2).trans rfl; have hcz36_3 : w33.cell? ⟨gb113, 3, none⟩ = some (.int .i64 0) := (blk_cell BK113.out 3).trans rfl; have hfz36_0 := blk_frozen BK113.out 0; have hfz36_1 := blk_frozen BK113.out 1; have hfz36_2 := blk_frozen BK113.out 2; have hfz36_3 := blk_frozen BK113.out 3))
      go_roundg k1
      case measure => have := HK1.out; omega
      case rel => exact ⟨(x5_1), (wrap64 (x6_1 + 1)), (by first | rfl | (simp; done) | (simp [*]; done)), H', ⟨by have := HK1.out; omega⟩, ⟨by (with_reducible repeat (first | apply Kd.R_alloc | apply Kd.R_drewN | apply Kd.R_drew)); exact Kd.R_mono (Kd.R_far (p := ⟨gb113, 3, none⟩) (Kd.R_far (p := ⟨gb113, 2, none⟩) (Kd.R_far (p := ⟨gb113, 1, none⟩) (Kd.R_far (p := ⟨gb113, 0, none⟩) (Kd.R_types HO_5.out BK113.out (by decide)) (fun _ hk => hk.2) (.int .i64 t108)) (fun _ hk => hk.2) (.int .i64 t109)) (fun _ hk => hk.2) (.int .i64 t110)) (fun _ hk => hk.2) (.int .i64 t111)) (fun _ hk => trivial)⟩, ⟨by (with_reducible repeat (first | refine blk_drewN ?_ _ | refine blk_drew ?_ | refine blk_alloc ?_ _)); refine blk_far ?_ NB102_113.out _; (with_reducible repeat (first | refine blk_drewN ?_ _ | refine blk_drew ?_ | refine blk_alloc ?_ _)); refine blk_far ?_ NB102_113.out _; (with_reducible repeat (first | refine blk_drewN ?_ _ | refine blk_drew ?_ | refine blk_alloc ?_ _)); refine blk_far ?_ NB102_113.out _; (with_reducible repeat (first | refine blk_drewN ?_ _ | refine blk_drew ?_ | refine blk_alloc ?_ _)); refine blk_far ?_ NB102_113.out _; (with_reducible repeat (first | refine blk_drewN ?_ _ | refine blk_drew ?_ | refine blk_alloc ?_ _)); exact BK102.out⟩, ⟨by (with_reducible repeat (first | refine blk_drewN ?_ _ | refine blk_drew ?_ | refine blk_alloc ?_ _)); refine blk_far ?_ NB103_113.out _; (with_reducible repeat (first | refine blk_drewN ?_ _ | refine blk_drew ?_ | refine blk_alloc ?_ _)); refine blk_far ?_ NB103_113.out _; (with_reducible repeat (first | refine blk_drewN ?_ _ | refine blk_drew ?_ | refine blk_alloc ?_ _)); refine blk_far ?_ NB103_113.out _; (with_reducible repeat (first | refine blk_drewN ?_ _ | refine blk_drew ?_ | refine blk_alloc ?_ _)); refine blk_far ?_ NB103_113.out _; (with_reducible repeat (first | refine blk_drewN ?_ _ | refine blk_drew ?_ | refine blk_alloc ?_ _)); exact BK103.out⟩, ⟨by repeat (first | (with_reducible first | exact HB.out | apply below_alloc | apply pw_below_drewN | apply below_drew1 | refine below_set ?_ GE102.out | refine below_set ?_ GE103.out | refine below_set ?_ GE113.out) | exact HB.out)⟩⟩
    ·replace c9 := Bool.eq_false_iff.mpr c9
     subst c9
     have H1 : (spec_l4Next.l0 k1 x5_1 (wrap64 (x6_1 + 1)) a0_0 a0_1 a0_2 a0_3 a1_0 a1_1 a1_2 a1_3) = some r := by rw [if_neg (show ¬ (false = true) by decide)] at H; exact H
     clear H
     have H := H1
     clear H1
     have H' := Aside0.mk H
     clear H
     have hnb37 := NB102_103.out
     have hnc37 := NB103_102.out
     have hcz38_0 : wr.cell? ⟨gb102, 0, none⟩ = some (.int .i64 a0_0) := (blk_cell BK102.out 0).trans rfl
     have hcz38_1 : wr.cell? ⟨gb102, 1, none⟩ = some (.int .i64 a0_1) := (blk_cell BK102.out 1).trans rfl
     have hcz38_2 : wr.cell? ⟨gb102, 2, none⟩ = some (.int .i64 a0_2) := (blk_cell BK102.out 2).trans rfl
     have hcz38_3 : wr.cell? ⟨gb102, 3, none⟩ = some (.int .i64 a0_3) := (blk_cell BK102.out 3).trans rfl
     have hfz38_0 := blk_frozen BK102.out 0
     have hfz38_1 := blk_frozen BK102.out 1
     have hfz38_2 := blk_frozen BK102.out 2
     have hfz38_3 := blk_frozen BK102.out 3
     go_wp2_with (first | ((with_reducible refine gate_callee (f := 61) rfl ?_); refine goesL_ (some 16) rfl rfl Try.func61 (by kernel_rfl) rfl #[.agg #[.int .i64 a0_0, .int .i64 a0_1, .int .i64 a0_2, .int .i64 a0_3], .int .i64 x6_1] rfl (by (try simp only [List.map_toArray, List.map_cons, List.map_nil]); first | done | rfl | (simp only [List.length_drop, List.length_take]; rfl)) ?_; (with_reducible refine (xL2Set.calls a0_0 a0_1 a0_2 a0_3 x6_1 false _ A8.out).mono ?_); rintro e w39 ⟨rfl, hb⟩; refine ⟨_, rfl, ?_⟩; have n0_ := Aside0.mk (Kd.R_below (by (with_reducible repeat (first | apply Kd.R_alloc | apply Kd.R_drewN | apply Kd.R_drew)); exact HO_5.out) hb); have n1_ := Aside0.mk (blk_below (g := gb102) (o := .cells #[.int .i64 a0_0, .int .i64 a0_1, .int .i64 a0_2, .int .i64 a0_3] 27 (0, 0)) (by (with_reducible repeat (first | refine blk_drewN ?_ _ | refine blk_drew ?_ | refine blk_alloc ?_ _)); exact BK102.out) hb); have n2_ := Aside0.mk (blk_below (g := gb103) (o := .cells #[.int .i64 a1_0, .int .i64 a1_1, .int .i64 a1_2, .int .i64 a1_3] 22 (0, 0)) (by (with_reducible repeat (first | refine blk_drewN ?_ _ | refine blk_drew ?_ | refine blk_alloc ?_ _)); exact BK103.out) hb); have n3_ := Aside0.mk (below_step (by repeat (first | (with_reducible first | exact HB.out | apply below_alloc | apply pw_below_drewN | apply below_drew1 | refine below_set ?_ GE102.out | refine below_set ?_ GE103.out) | exact HB.out)) hb); clear HO_5; clear BK102; clear BK103; clear HB; have HO_5 := n0_; have BK102 := n1_; have BK103 := n2_; have HB := n3_; clear n0_ n1_ n2_ n3_; (try clear hb); (try clear hb2); (try clear hk); (try clear hi)))
     go_roundg k1
     case measure => have := HK1.out; omega
     case rel => exact ⟨(x5_1), (wrap64 (x6_1 + 1)), (by first | rfl | (simp; done) | (simp [*]; done)), H', ⟨by have := HK1.out; omega⟩, ⟨by (with_reducible repeat (first | apply Kd.R_alloc | apply Kd.R_drewN | apply Kd.R_drew)); exact HO_5.out⟩, ⟨by (with_reducible repeat (first | refine blk_drewN ?_ _ | refine blk_drew ?_ | refine blk_alloc ?_ _)); exact BK102.out⟩, ⟨by (with_reducible repeat (first | refine blk_drewN ?_ _ | refine blk_drew ?_ | refine blk_alloc ?_ _)); exact BK103.out⟩, ⟨by repeat (first | (with_reducible first | exact HB.out | apply below_alloc | apply pw_below_drewN | apply below_drew1 | refine below_set ?_ GE102.out | refine below_set ?_ GE103.out) | exact HB.out)⟩⟩
   ·rw [if_neg c7] at H
    have c7b0 : decide (x6_1 < 16) = false := decide_eq_false c7
    clear c7
    obtain rfl := Option.some.inj H
    go_wp2
    go_ret
    exact ⟨_, by first | rfl | (simp [errW_none, errW_some] <;> rfl) | (simp [*, errW_none, errW_some] <;> rfl), by (with_reducible repeat (first | apply Kd.R_alloc | apply Kd.R_drewN | apply Kd.R_drew)); exact HO_5.out, by repeat (first | (with_reducible first | exact HB.out | apply below_alloc | apply pw_below_drewN | apply below_drew1 | refine below_set ?_ GE102.out | refine below_set ?_ GE103.out) | exact HB.out)⟩
end Go.Proofs.Ytlhodfjdmafapaa.QMs
end
