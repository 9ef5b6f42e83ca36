/- RunRopes: what markIntA3S does. No statement of the seat is proved here. -/
import Derived.Test.YtdbnajaimodnmaaPRopes
import Derived.Test.YtdbnajaimodnmaaMarkI
namespace Go.Proofs.Ytdbnajaimodnmaa
open Go.RowKit Go.Proofs.YtdbnajaimodnmaaW.PrintWords Go.Proofs.YtdbnajaimodnmaaW.PrintLast Go.Proofs.Ytdbnajaimodnmaa.QRo
set_option linter.unusedVariables false
set_option linter.unusedSimpArgs false
theorem blk3 {L : List S36} {e base cp : Nat} {ok : Nat → Prop} {A : Option Addr} {w : World} (hR : Kd.R k36 e w base ok (.slice A L.length cp) L) (hn : 0 < L.length) :
    ∃ (g : Nat) (cs : Array Value), A = some ⟨g, 0, none⟩ ∧ base ≤ g ∧ w.heap[g]? = some (.cells cs e (0, 0)) ∧ 3 * L.length ≤ cs.size := by
  obtain ⟨g, c, e1, gb, gl, cl, HG⟩ := Kd.R_form hR hn
  injection e1 with ea en ec
  subst ea
  obtain ⟨cs, hcs⟩ := Kd.R_typed hR g rfl
  refine ⟨g, cs, rfl, gb, hcs, ?_⟩
  obtain ⟨_, _, hC⟩ := Kd.R_reads' hR
  obtain ⟨ad, ead, hc⟩ := hC.2.2 (by omega)
  injection ead with ead
  subst ead
  obtain ⟨us, h1, h2, h3⟩ := hc (L.length - 1) _ (List.getElem?_eq_getElem (by omega))
  obtain ⟨y0, y1, y2, rfl⟩ : ∃ y0 y1 y2, us = [y0, y1, y2] := by
    have : us.length = 3 := h1
    match us, this with
    | [y0, y1, y2], _ => exact ⟨y0, y1, y2, rfl⟩
  have h4 := h3 2 y2 rfl
  rw [add_plain, blk_cell hcs] at h4
  have h5 : (L.length - 1) * 3 + 2 < cs.size := (Array.getElem?_eq_some_iff.1 h4).1
  omega
set_option maxHeartbeats 3200000 in
theorem markA_any (n0 : Int) (L : List S36) (base : Nat) (ok : Nat → Prop) (v : Value) (w : World) (h0 : 0 ≤ n0) (hn : n0 + 3 * L.length ≤ 4000000) (hbase : base ≤ w.heap.size) (hR : Kd.R k36 36 w base ok v L) :
    Calls Try.prog 23 #[v, .int .i64 n0] w fun e w' => e = .returned (.int .i64 (n0 + 3 * (L.length : Int))) ∧ Below base w w' ∧ ∀ i, v.ownBlock ≠ some i → w'.heap[i]? = w.heap[i]? := by
  obtain ⟨A, cp, rfl, hcp, hC⟩ := Kd.R_reads hR
  have HB0 := Aside0.mk (fun hn : 0 < L.length => blk3 hR hn)
  have HN := Aside0.mk (show 0 ≤ n0 ∧ n0 + 3 * (L.length : Int) ≤ 4000000 from ⟨h0, hn⟩)
  clear hR hC h0 hn hbase
  go_enter Try.func23, Try.ntmps23
  go_wp2_with fail
  go_loopw [1, 5, 6] (fun v1 v5 v6 wr => ∃ (x a : Int), v5 = .int .i64 x ∧ v1 = .int .i64 a ∧ Aside0 (0 ≤ x ∧ x ≤ (L.length : Int) ∧ a = n0 + 3 * x) ∧ Aside0 (0 < L.length → ∃ (g : Nat) (cs : Array Value), A = some ⟨g, 0, none⟩ ∧ base ≤ g ∧ wr.heap[g]? = some (.cells cs 36 (0, 0)) ∧ 3 * L.length ≤ cs.size) ∧ Aside0 (Below base w wr) ∧ Aside0 (∀ i, (Value.slice A L.length cp).ownBlock ≠ some i → wr.heap[i]? = w.heap[i]?)) (fun _ v5 _ _ => L.length - (intOf v5).toNat)
  case atStart => exact ⟨0, n0, rfl, rfl, ⟨by omega, by omega, by omega⟩, HB0, ⟨Below.refl _ _⟩, ⟨fun _ _ => rfl⟩⟩
  case round =>
    obtain ⟨x, a, rfl, rfl, HX, HO, HB, HK⟩ := hrel
    by_cases c : x < (L.length : Int)
    · have c0 : decide (x < (L.length : Int)) = true := decide_eq_true c
      obtain ⟨g, cs, rfl, hgb, hcs, hsz⟩ := HO.out (by have := HX.out; omega)
      obtain ⟨x, rfl⟩ := Int.eq_ofNat_of_zero_le HX.out.1
      have p9 : 0 ≤ (x : Int) := HX.out.1
      have hx := HX.out
      have hnn := HN.out
      obtain ⟨u0, hu0⟩ : ∃ u, cs[x * 3]? = some u := ⟨_, Array.getElem?_eq_getElem (by omega)⟩
      have c1 := (blk_cell hcs (x * 3)).trans hu0
      have f1 := blk_frozen hcs (x * 3)
      have b1 := blk_set hcs (x * 3) (.int .i64 a)
      obtain ⟨u1, hu1⟩ : ∃ u, (cs.setIfInBounds (x * 3) (.int .i64 a))[x * 3 + 1]? = some u := ⟨_, Array.getElem?_eq_getElem (by simp; omega)⟩
      have c2 := (blk_cell b1 (x * 3 + 1)).trans hu1
      have f2 := blk_frozen b1 (x * 3 + 1)
      have b2 := blk_set b1 (x * 3 + 1) (.int .i64 (a + 1))
      obtain ⟨u2, hu2⟩ : ∃ u, ((cs.setIfInBounds (x * 3) (.int .i64 a)).setIfInBounds (x * 3 + 1) (.int .i64 (a + 1)))[x * 3 + 2]? = some u := ⟨_, Array.getElem?_eq_getElem (by simp; omega)⟩
      have c3 := (blk_cell b2 (x * 3 + 2)).trans hu2
      have f3 := blk_frozen b2 (x * 3 + 2)
      have b3 := blk_set b2 (x * 3 + 2) (.int .i64 (a + 1 + 1))
      have HB3 := Aside0.mk b3
      have HSZ := Aside0.mk (show 3 * L.length ≤ (((cs.setIfInBounds (x * 3) (.int .i64 a)).setIfInBounds (x * 3 + 1) (.int .i64 (a + 1))).setIfInBounds (x * 3 + 2) (.int .i64 (a + 1 + 1))).size by simp; omega)
      have HGB := Aside0.mk hgb
      have HF := Aside0.mk (((HB.out.setCell (p := ⟨g, x * 3, none⟩) hgb (Value.int .i64 a)).setCell (p := ⟨g, x * 3 + 1, none⟩) hgb (Value.int .i64 (a + 1))).setCell (p := ⟨g, x * 3 + 2, none⟩) hgb (Value.int .i64 (a + 1 + 1)))
      have HK2 := Aside0.mk (show ∀ i, (Value.slice (some ⟨g, 0, none⟩) L.length cp).ownBlock ≠ some i → (((wr.setCell ⟨g, x * 3, none⟩ (.int .i64 a)).setCell ⟨g, x * 3 + 1, none⟩ (.int .i64 (a + 1))).setCell ⟨g, x * 3 + 2, none⟩ (.int .i64 (a + 1 + 1))).heap[i]? = w.heap[i]? from fun i hi => by
        have hne : i ≠ g := fun e => hi (by rw [e]; rfl)
        exact (Below.heap_setCell _ ⟨g, x * 3 + 2, none⟩ _ i hne).trans ((Below.heap_setCell _ ⟨g, x * 3 + 1, none⟩ _ i hne).trans ((Below.heap_setCell _ ⟨g, x * 3, none⟩ _ i hne).trans (HK.out i hi))))
      have ha0 : 0 ≤ a := by omega
      have ha1 : a ≤ 4000000 := by omega
      have hx1 : (x : Int) ≤ 4000000 := by omega
      clear HO HB HK hu0 hu1 hu2 b1 b2 b3 hcs hgb hx hnn
      go_wp2_with fail
      refine wp_loop_rounds 4 ?_
      go_wp2_with (first | (rw [rounds_succ]) | fail)
      clear c1 c2 c3 f1 f2 f3
      refine ⟨⟨(x : Int) + 1, a + 1 + 1 + 1, rfl, rfl, ⟨by omega, by omega, by have := HX.out; omega⟩, ⟨fun _ => ⟨g, _, rfl, HGB.out, HB3.out, HSZ.out⟩⟩, HF, HK2⟩, ?_⟩
      clear HF HK2 HB3 HSZ HN
      simp only [intOf]
      have := HX.out
      clear HX
      omega
    · have c0 : decide (x < (L.length : Int)) = false := decide_eq_false c
      have e1 : x = (L.length : Int) := by have := HX.out; omega
      have e2 : a = n0 + 3 * (L.length : Int) := by have := HX.out; omega
      go_wp2_with fail
      go_ret
      exact ⟨rfl, HB.out, HK.out⟩
end Go.Proofs.Ytdbnajaimodnmaa
