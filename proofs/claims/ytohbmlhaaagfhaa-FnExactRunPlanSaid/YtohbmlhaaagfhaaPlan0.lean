/- Contracts: a plan's sets are sets of glasses (a closure handed to the library's search). No statement of the seat is proved here. -/
import Derived.Test.YtohbmlhaaagfhaaExt
namespace Go.Proofs.Ytohbmlhaaagfhaa
open Go.RowKit Go.Proofs.YtohbmlhaaagfhaaW.PrintWords
set_option linter.unusedVariables false
set_option linter.unusedSimpArgs false
theorem isPlan1_any (k : Nat → Int) (b : Nat) (set : Int) (w : World) (h : w.heap[b]? = some (.cells #[.int .i64 (k 0), .int .i64 (k 1), .int .i64 (k 2), .int .i64 (k 3)] 28 (0, 0))) :
    Calls Try.prog 55 #[.int .i64 set, .pointer (some ⟨b, 0, none⟩)] w fun e w' => e = .returned (.bool (!isSetB k set)) ∧ Below w.heap.size w w' := by
  have c0 : w.cell? ⟨b, 0, none⟩ = some (.int .i64 (k 0)) := (blk_cell h 0).trans rfl
  have c1 : w.cell? ⟨b, 1, none⟩ = some (.int .i64 (k 1)) := (blk_cell h 1).trans rfl
  have c2 : w.cell? ⟨b, 2, none⟩ = some (.int .i64 (k 2)) := (blk_cell h 2).trans rfl
  have c3 : w.cell? ⟨b, 3, none⟩ = some (.int .i64 (k 3)) := (blk_cell h 3).trans rfl
  clear h
  go_enter Try.func55, Try.ntmps55
  go_wp2_with fail
  refine (isSet_any k set _).mono ?_
  rintro e w1 ⟨rfl, hb⟩
  go_wp2_with fail
  go_ret
  exact ⟨rfl, hb⟩
theorem planSearch_any (k : Nat → Int) (b : Nat) (A0 : Option Addr) (c0 : Nat) (l0 : List Int) (w : World) (hr0 : Kd.C (Kd.int .i64) w A0 l0.length l0) (hc0 : l0.length ≤ c0) (hl : l0.length ≤ 12)
    (h : w.heap[b]? = some (.cells #[.int .i64 (k 0), .int .i64 (k 1), .int .i64 (k 2), .int .i64 (k 3)] 28 (0, 0))) :
    Calls Try.prog 72 #[.slice A0 l0.length c0, .func (Fn.func 55) #[] #[.pointer (some ⟨b, 0, none⟩)]] w
      fun e w' => ∃ r : Int, e = .returned (.int .i64 r) ∧ (r < 0 ↔ l0.all (isSetB k) = true) ∧ Below w.heap.size w w' := by
  have HR0 := Aside0.mk hr0
  have HC0 := Aside0.mk hc0
  have HH := Aside0.mk h
  clear hr0 hc0 h
  go_enter Try.func72, Try.ntmps72
  go_wp2_with fail
  go_loopw [8] (fun v8 wr => ∃ j : Nat, v8 = .int .i64 j ∧ j ≤ l0.length ∧ Aside0 (∀ i, i < j → isSetB k (l0.getD i 0) = true) ∧ Aside0 (Below w.heap.size w wr)) (fun v8 _ => l0.length - (intOf v8).toNat)
  case atStart => exact ⟨0, rfl, by omega, ⟨fun i hi => absurd hi (Nat.not_lt_zero i)⟩, ⟨Below.refl _ _⟩⟩
  case round =>
    obtain ⟨j, rfl, hj, HA, HB⟩ := hrel
    by_cases c : j < l0.length
    · have c1 : decide ((j : Int) < (l0.length : Int)) = true := decide_eq_true (by omega)
      have c2 : decide (j < l0.length) = true := decide_eq_true c
      obtain ⟨ad, e0, hx⟩ := Kd.at_int (Kd.C_below HR0.out HB.out) (j : Int) (by omega) (by omega)
      cases e0
      have p0 : (0 : Int) ≤ (j : Int) := by omega
      have hx' : wr.cell? (ad.add j) = some (.int .i64 (rd l0 (j : Int))) := by simpa using hx
      have hblk : wr.heap[b]? = some (.cells #[.int .i64 (k 0), .int .i64 (k 1), .int .i64 (k 2), .int .i64 (k 3)] 28 (0, 0)) := (HB.out.block b (blk_lt HH.out)).trans HH.out
      have HBK := Aside0.mk hblk
      clear hblk hx
      go_wp2_with fail
      refine (isPlan1_any k b _ _ HBK.out).mono ?_
      rintro e w1 ⟨rfl, hb⟩
      have HB1 := Aside0.mk (below_chain HB.out hb)
      clear hb
      have er : rd l0 (j : Int) = l0.getD j 0 := by simp [rd]
      cases q : isSetB k (rd l0 (j : Int))
      · have Q := Aside0.mk q
        clear hx'
        go_wp2_with fail
        go_ret
        refine ⟨(j : Int), rfl, ?_, HB1.out⟩
        constructor
        · intro h; omega
        · intro h
          exfalso
          rw [List.all_eq_true] at h
          have := h (l0.getD j 0) (by rw [List.getD_eq_getElem?_getD, List.getElem?_eq_getElem c]; simp)
          rw [← er, Q.out] at this
          cases this
      · have Q := Aside0.mk q
        clear hx'
        go_wp2_with fail
        go_roundw
        case rel =>
          refine ⟨j + 1, by go_num, by omega, ⟨fun i hi => ?_⟩, HB1⟩
          by_cases e : i = j
          · subst e; rw [← er]; exact Q.out
          · exact HA.out i (by omega)
        case measure => simp [intOf]; omega
    · have c1 : decide ((j : Int) < (l0.length : Int)) = false := decide_eq_false (by omega)
      have c2 : decide (j < l0.length) = false := decide_eq_false c
      go_wp2_with fail
      go_ret
      refine ⟨-1, rfl, ?_, HB.out⟩
      constructor
      · intro _
        rw [List.all_eq_true]
        intro x hx
        obtain ⟨i, hi, rfl⟩ := List.getElem_of_mem hx
        have := HA.out i (by omega)
        rwa [List.getD_eq_getElem?_getD, List.getElem?_eq_getElem hi] at this
      · intro _; omega
theorem planHas_any (k : Nat → Int) (b : Nat) (A0 : Option Addr) (c0 : Nat) (l0 : List Int) (w : World) (hr0 : Kd.C (Kd.int .i64) w A0 l0.length l0) (hc0 : l0.length ≤ c0) (hl : l0.length ≤ 12)
    (h : w.heap[b]? = some (.cells #[.int .i64 (k 0), .int .i64 (k 1), .int .i64 (k 2), .int .i64 (k 3)] 28 (0, 0))) :
    Calls Try.prog 54 #[.slice A0 l0.length c0, .func (Fn.func 55) #[] #[.pointer (some ⟨b, 0, none⟩)]] w
      fun e w' => e = .returned (.bool (!l0.all (isSetB k))) ∧ Below w.heap.size w w' := by
  have C := Aside0.mk (planSearch_any k b A0 c0 l0 w hr0 hc0 hl h)
  clear hr0 hc0 h
  go_enter Try.func54, Try.ntmps54
  go_wp2_with fail
  refine C.out.mono ?_
  rintro e w1 ⟨r, rfl, hr, hb⟩
  have HR := Aside0.mk hr
  have HB := Aside0.mk hb
  clear hr hb
  by_cases c : r < 0
  · have c1 : decide (r ≥ 0) = false := decide_eq_false (by omega)
    have c2 : decide (0 ≤ r) = false := decide_eq_false (by omega)
    go_wp2_with fail
    go_ret
    exact ⟨ret_bool (by rw [HR.out.1 c]; rfl), HB.out⟩
  · have c1 : decide (r ≥ 0) = true := decide_eq_true (by omega)
    have c2 : decide (0 ≤ r) = true := decide_eq_true (by omega)
    go_wp2_with fail
    go_ret
    refine ⟨ret_bool ?_, HB.out⟩
    cases q : l0.all (isSetB k)
    · rfl
    · have := HR.out.2 q; omega
def isPlanB (k : Nat → Int) (l : List Int) : Bool := decide (l.length ≤ 12) && l.all (isSetB k)
theorem isPlan_any (k : Nat → Int) (A0 : Option Addr) (c0 : Nat) (l0 : List Int) (w : World) (hr0 : Kd.C (Kd.int .i64) w A0 l0.length l0) (hc0 : l0.length ≤ c0) :
    Calls Try.prog 33 #[A4 k, .slice A0 l0.length c0] w fun e w' => e = .returned (.bool (isPlanB k l0)) ∧ Below w.heap.size w w' := by
  by_cases h : l0.length ≤ 12
  · have C := Aside0.mk (fun (W : World) (hb : Below w.heap.size w W) (b : Nat) (hk : W.heap[b]? = some (.cells #[.int .i64 (k 0), .int .i64 (k 1), .int .i64 (k 2), .int .i64 (k 3)] 28 (0, 0))) => planHas_any k b A0 c0 l0 W (Kd.C_below hr0 hb) hc0 h hk)
    have e1 : isPlanB k l0 = l0.all (isSetB k) := by simp [isPlanB, h]
    have E1 := Aside0.mk e1
    clear e1 hr0 hc0
    have b : decide (l0.length ≤ 12) = true := decide_eq_true (by omega)
    have b2 : decide ((l0.length : Int) ≤ 12) = true := decide_eq_true (by omega)
    go_enter Try.func33, Try.ntmps33
    go_wp2_with fail
    refine (C.out _ ((Below.refl _ _).alloc (Nat.le_refl _) _) w.heap.size (heap_alloc_new w _)).mono ?_
    rintro e w1 ⟨rfl, hb⟩
    have HB := Aside0.mk (below_chain ((Below.refl _ _).alloc (Nat.le_refl _) _) hb)
    clear hb
    go_wp2_with fail
    go_ret
    exact ⟨ret_bool (by first | (rw [E1.out]; done) | (rw [E1.out]; simp)), HB.out⟩
  · have e1 : isPlanB k l0 = false := by simp [isPlanB, h]
    have E1 := Aside0.mk e1
    clear e1 hr0 hc0
    have b : decide (l0.length ≤ 12) = false := decide_eq_false (by omega)
    have b2 : decide ((l0.length : Int) ≤ 12) = false := decide_eq_false (by omega)
    go_enter Try.func33, Try.ntmps33
    go_wp2_with fail
    go_ret
    exact ⟨ret_bool E1.out.symm, by (first | exact (Below.refl _ _).alloc (Nat.le_refl _) _ | exact Below.refl _ _)⟩
def xIsPlan.f (a0_0 a0_1 a0_2 a0_3 : Int) (l1 : List Int) : Option Bool := some (isPlanB (v4 a0_0 a0_1 a0_2 a0_3) l1)
theorem xIsPlan.calls (a0_0 a0_1 a0_2 a0_3 : Int) (A1 : Option Addr) (c1 : Nat) (l1 : List Int) (r : Bool) (w : World) (hr1 : Kd.C (Kd.int .i64) w A1 l1.length l1) (hc1 : l1.length ≤ c1) (h : xIsPlan.f a0_0 a0_1 a0_2 a0_3 l1 = some r) :
    Calls Try.prog 33 #[.agg #[.int .i64 a0_0, .int .i64 a0_1, .int .i64 a0_2, .int .i64 a0_3], .slice A1 l1.length c1] w fun e w' => e = .returned (.bool r) ∧ Below w.heap.size w w' := by
  obtain rfl := Option.some.inj h
  exact isPlan_any (v4 a0_0 a0_1 a0_2 a0_3) A1 c1 l1 w hr1 hc1
end Go.Proofs.Ytohbmlhaaagfhaa
