/- RunRopes: the law's walk. No statement of the seat is proved here. -/
import Derived.Test.YtdbnajaimodnmaaMarkR
namespace Go.Proofs.Ytdbnajaimodnmaa
open Go.RowKit Go.Proofs.YtdbnajaimodnmaaW.PrintWords Go.Proofs.YtdbnajaimodnmaaW.PrintLast Go.Proofs.Ytdbnajaimodnmaa.QRo
set_option linter.unusedVariables false
set_option linter.unusedSimpArgs false
theorem sz_some (l : List S36) (hl : l.length ≤ 1048576) : laws_szIntA3S.f l 1048576 = some (1048576 - (l.length : Int)) := by
  unfold laws_szIntA3S.f
  have e : wrap64 (1048576 - (l.length : Int)) = 1048576 - (l.length : Int) := by unfold wrap64; omega
  rw [e, if_neg (by omega)]
theorem sz_none (l : List S36) (hl : 1048576 < l.length) (h2 : l.length ≤ 5864062014634) : laws_szIntA3S.f l 1048576 = some (-1) := by
  unfold laws_szIntA3S.f
  have e : wrap64 (1048576 - (l.length : Int)) = 1048576 - (l.length : Int) := by unfold wrap64; omega
  rw [e, if_pos (by omega)]
def Bx6 (W : World) (B : Nat) (f : Nat → Int) : Prop := W.cell? ⟨B, 0, none⟩ = some (.int .i64 (f 0)) ∧ W.cell? ⟨B, 1, none⟩ = some (.int .i64 (f 1)) ∧ W.cell? ⟨B, 2, none⟩ = some (.int .i64 (f 2)) ∧ W.cell? ⟨B, 3, none⟩ = some (.int .i64 (f 3)) ∧ W.cell? ⟨B, 4, none⟩ = some (.int .i64 (f 4)) ∧ W.cell? ⟨B, 5, none⟩ = some (.int .i64 (f 5))
theorem Bx6.lt {W : World} {B : Nat} {f : Nat → Int} (h : Bx6 W B f) : B < W.heap.size := World.block_lt_of_cell? W _ h.1
theorem Bx6.same {W W' : World} {B : Nat} {f : Nat → Int} (h : Bx6 W B f) (e : W'.heap[B]? = W.heap[B]?) : Bx6 W' B f := by
  unfold Bx6 World.cell? at *
  simp only [e]
  exact h
theorem Bx6.below {W W' : World} {B : Nat} {f : Nat → Int} (h : Bx6 W B f) (hb : Below W.heap.size W W') : Bx6 W' B f := h.same (hb.block B h.lt)
theorem box6_blk {W : World} {B T : Nat} {f : Nat → Int} (h : W.heap[B]? = some (.cells #[.int .i64 (f 0), .int .i64 (f 1), .int .i64 (f 2), .int .i64 (f 3), .int .i64 (f 4), .int .i64 (f 5)] T (0, 0))) : Bx6 W B f :=
  ⟨(blk_cell h 0).trans rfl, (blk_cell h 1).trans rfl, (blk_cell h 2).trans rfl, (blk_cell h 3).trans rfl, (blk_cell h 4).trans rfl, (blk_cell h 5).trans rfl⟩
theorem lawRunRopes_far (f : Nat → Int) (A : Option Addr) (cap : Nat) (l : List S36) (w : World) (hC : Kd.C k36 w A l.length l) (hcap : l.length ≤ cap) (hl : 1048576 < l.length) (h2 : l.length ≤ 5864062014634) :
    Calls Try.prog 4 #[A6 f, .slice A l.length cap] w fun e w' => e = .returned (.bool true) ∧ Below w.heap.size w w' := by
  have hS := fun W hc => laws_szIntA3S.calls A cap l 1048576 (-1) W hc hcap (sz_none l hl h2)
  have HC := Aside0.mk hC
  clear hC hl h2
  go_enter Try.func4, Try.ntmps4
  go_wp2_with fail
  refine (hS _ (Kd.C_below HC.out (below_alloc (Below.refl _ _) _))).mono ?_
  rintro e w1 ⟨rfl, hd⟩
  have H1 := Aside0.mk (below_chain (below_alloc (Below.refl _ _) _) (Drawn0.below hd))
  clear hd
  go_wp2_with fail
  go_ret
  exact ⟨rfl, H1.out⟩
theorem R_at {α : Type} {d : Kd α} {e base : Nat} {ok : Nat → Prop} {w : World} {v : Value} {xs : List α} (h : Kd.R d e w base ok v xs) : ∃ n, n = base ∧ Kd.R d e w n ok v xs := ⟨_, rfl, h⟩
set_option maxHeartbeats 8000000 in
theorem lawRunRopes_main (f : Nat → Int) (A : Option Addr) (cap : Nat) (l : List S36) (w : World) (hC : Kd.C k36 w A l.length l) (hcap : l.length ≤ cap) (hl : l.length ≤ 1048576) :
    Calls Try.prog 4 #[A6 f, .slice A l.length cap] w fun e w' => e = .returned (.bool true) ∧ Below w.heap.size w w' := by
  obtain ⟨k3, T, g, ok, hs, hi, hT⟩ := runRopes_both f l hl
  have hS := fun W hc => laws_szIntA3S.calls A cap l 1048576 _ W hc hcap (sz_some l hl)
  have hTo := fun W hc => laws_toIntA3S.calls (l.length + 1) A cap l l W hc hcap (toA_f l hl)
  have hSp := fun A2 c2 W hc hcc => spec_RunRopes.calls k3 (f 0) (f 1) (f 2) (f 3) (f 4) (f 5) A2 c2 l T (g 0) (g 1) (g 2) (g 3) (g 4) (g 5) ok W hc hcc hs
  have hIm := fun A2 c2 W hc hcc => impl_RunRopes.calls k3 (f 0) (f 1) (f 2) (f 3) (f 4) (f 5) A2 c2 l T (g 0) (g 1) (g 2) (g 3) (g 4) (g 5) ok W hc hcc hi
  have hEL := fun A2 A3 c2 c3 W r0 g0 r1 g1 => laws_eqIntA3S.calls (l.length + 1) A2 c2 l A3 c3 l true W r0 g0 r1 g1 (eqA_f l hl)
  obtain ⟨k4, h4⟩ := eqI_same T (by omega)
  have hET := fun A2 A3 c2 c3 W r0 g0 r1 g1 => QAll.laws_eqIntS.calls k4 A2 c2 T A3 c3 T true W r0 g0 r1 g1 (h4 k4 (Nat.le_refl _))
  have HC := Aside0.mk hC
  have HT := Aside0.mk hT
  have HL := Aside0.mk hl
  have hn0 : decide (1048576 - (l.length : Int) < 0) = false := decide_eq_false (by omega)
  clear hC hs hi hT h4
  go_enter Try.func4, Try.ntmps4
  go_wp2_with fail
  refine (hS _ (Kd.C_below HC.out (below_alloc (Below.refl _ _) _))).mono ?_
  rintro e w1 ⟨rfl, hd⟩
  have H1 := Aside0.mk (below_chain (below_alloc (Below.refl _ _) _) (Drawn0.below hd))
  have HBX := Aside0.mk (blk_below (heap_alloc_new w _) (Drawn0.below hd))
  clear hd
  have HB1 := Aside0.mk (box6_blk HBX.out)
  obtain ⟨p0, p1, p2, p3, p4, p5⟩ := HB1.out
  clear HBX
  go_wp2_with fail
  refine (toRopes_any f _).mono ?_
  rintro e w2 ⟨rfl, hb⟩
  have H2 := Aside0.mk (below_chain H1.out hb)
  have HB2 := Aside0.mk (HB1.out.below hb)
  clear hb H1 HB1 p0 p1 p2 p3 p4 p5
  go_wp2_with fail
  refine (hTo _ (Kd.C_below HC.out H2.out)).mono ?_
  rintro e w3 ⟨v0, rfl, hR, hb⟩
  obtain ⟨A0, c0, rfl, hc0, hC0⟩ := Kd.R_reads hR
  have H3 := Aside0.mk (below_chain H2.out hb)
  have HB3 := Aside0.mk (HB2.out.below hb)
  have HS := hSp A0 c0 w3 hC0 hc0
  clear hb hR hc0 hC0 H2 HB2
  go_wp2_with fail
  refine HS.mono ?_
  rintro e w4 ⟨v0, rfl, hR, hb⟩
  obtain ⟨A1, c1, rfl, hc1, hC1⟩ := Kd.R_reads hR
  have H4 := Aside0.mk (below_chain H3.out hb)
  have HB4 := Aside0.mk (HB3.out.below hb)
  have HG1 := Aside0.mk hc1
  have HC1 := Aside0.mk hC1
  clear hb hR hc1 hC1 H3 HB3 HS
  go_wp2_with fail
  refine (hTo _ (Kd.C_below HC.out (below_alloc H4.out _))).mono ?_
  rintro e w5 ⟨vx, rfl, hR, hb⟩
  obtain ⟨n5, he, hR⟩ := R_at hR
  have hn5 : n5 = w4.heap.size + 1 := by simpa using he
  clear he
  have HN5 := Aside0.mk hn5
  obtain ⟨Ax, cx, rfl, hcx, hCx⟩ := Kd.R_reads hR
  have D5 := Aside0.mk (show Below w4.heap.size w4 w5 from below_chain (below_alloc (Below.refl _ _) _) hb)
  have HG5 := Aside0.mk ((box6_blk (heap_alloc_new w4 _)).below hb)
  have HB5 := Aside0.mk (HB4.out.below D5.out)
  have HRx := Aside0.mk hR
  have HCx := Aside0.mk hCx
  have HGx := Aside0.mk hcx
  have HN5' := Aside0.mk (show n5 ≤ w5.heap.size by have := hb.size; simp at this; omega)
  clear hb hR hCx hcx hn5
  obtain ⟨p0, p1, p2, p3, p4, p5⟩ := HB5.out
  go_wp2_with fail
  refine (toRopes_any f _).mono ?_
  rintro e w6 ⟨rfl, hb⟩
  have D6 := Aside0.mk (show Below w5.heap.size w5 w6 from hb)
  clear hb p0 p1 p2 p3 p4 p5
  have HI := hIm Ax cx w6 (Kd.C_below HCx.out D6.out) HGx.out
  go_wp2_with fail
  refine HI.mono ?_
  rintro e w7 ⟨v0, rfl, hR, hb⟩
  obtain ⟨A2, c2, rfl, hc2, hC2⟩ := Kd.R_reads hR
  have HR7 := Aside0.mk hR
  have HC7 := Aside0.mk hC2
  have HG2 := Aside0.mk hc2
  have HN7 := Aside0.mk (show w5.heap.size ≤ w6.heap.size ∧ w6.heap.size ≤ w7.heap.size from ⟨D6.out.size, hb.size⟩)
  have HS4 := Aside0.mk (show w4.heap.size + 1 ≤ w5.heap.size by have := HN5.out; have := HN5'.out; omega)
  have D7 := Aside0.mk (below_chain D6.out hb)
  clear HI hb hR hC2 hc2 D6
  have HE := hET A2 A1 c2 c1 _ (Kd.C_below HC7.out (below_alloc (Below.refl _ _) (.cells #[.int .i64 (g 0), .int .i64 (g 1), .int .i64 (g 2), .int .i64 (g 3), .int .i64 (g 4), .int .i64 (g 5)] 41 (0, 0)))) HG2.out (Kd.C_below HC1.out (below_alloc (below_chain D5.out D7.out) _)) HG1.out
  go_wp2_with fail
  refine HE.mono ?_
  rintro e w8 ⟨rfl, hd⟩
  have D8 := Aside0.mk (show Below w7.heap.size w7 w8 from below_chain (below_alloc (Below.refl _ _) _) (Drawn0.below hd))
  have HI8 := Aside0.mk ((box6_blk (heap_alloc_new w7 _)).below (Drawn0.below hd))
  have HG8 := Aside0.mk ((HG5.out.below D7.out).below D8.out)
  clear HE hd
  obtain ⟨p0, p1, p2, p3, p4, p5⟩ := HI8.out
  obtain ⟨q0, q1, q2, q3, q4, q5⟩ := HG8.out
  go_wp2_with fail
  refine (eqRopes_same g _).mono ?_
  rintro e w9 ⟨rfl, hb⟩
  have D9 := Aside0.mk (below_chain D8.out hb)
  have HI9 := Aside0.mk (HI8.out.below hb)
  clear hb D8 HI8 HG8 p0 p1 p2 p3 p4 p5 q0 q1 q2 q3 q4 q5
  go_wp2_with fail
  refine (hTo _ (Kd.C_below HC.out (below_chain (below_chain (below_chain H4.out D5.out) D7.out) D9.out))).mono ?_
  rintro e w10 ⟨v0, rfl, hR, hb⟩
  obtain ⟨A3, c3, rfl, hc3, hC3⟩ := Kd.R_reads hR
  have D10 := Aside0.mk (below_chain D9.out hb)
  have HI10 := Aside0.mk (HI9.out.below hb)
  have HE := hEL Ax A3 cx c3 w10 (Kd.C_below HCx.out (below_chain D7.out D10.out)) HGx.out hC3 hc3
  clear hb hR hc3 hC3 D9 HI9
  go_wp2_with fail
  refine HE.mono ?_
  rintro e w11 ⟨rfl, hb⟩
  have D11 := Aside0.mk (below_chain D10.out hb)
  have HI11 := Aside0.mk (HI10.out.below hb)
  clear HE hb D10 HI10
  have HM := markA_any 1 l n5 (fun _ => True) (.slice Ax l.length cx) w11 (by omega) (by have := HL.out; omega) (Nat.le_trans HN5'.out (below_chain D7.out D11.out).size) (Kd.R_below HRx.out (below_chain D7.out D11.out))
  have nL : decide (1 + 3 * (l.length : Int) < 0) = false := decide_eq_false (by omega)
  go_wp2_with fail
  refine HM.mono ?_
  rintro e w12 ⟨rfl, hb, hsame⟩
  have hxl := Kd.R_lt HRx.out
  have hxb := Kd.R_base HRx.out
  have D12 := Aside0.mk (show Below w4.heap.size w4 w12 from (below_chain (below_chain D5.out D7.out) D11.out).trans (hb.mono (by have := HN5.out; omega)))
  have HR12 := Aside0.mk (show Kd.R (Kd.int .i64) 3 w12 w6.heap.size (fun _ => True) (.slice A2 T.length c2) T from
    Kd.R_mono (Kd.R_step (Kd.R_reok (ok := fun q => (Value.slice Ax l.length cx).ownBlock ≠ some q) rfl (Kd.R_below HR7.out D11.out) (fun q hq hx => by
      have a := Kd.R_base HR7.out q hq
      have b := hxl q hx
      have := HN7.out
      omega)) (fun q hq _ => hsame q hq)) (fun _ _ => trivial))
  have HI12 := Aside0.mk (HI11.out.same (hsame w7.heap.size (fun hx => by
      have b := hxl w7.heap.size hx
      have := HN7.out
      omega)))
  have HG12 := Aside0.mk ((((HG5.out.below D7.out).below D11.out)).same (hsame w4.heap.size (fun hx => by
      have b := hxb w4.heap.size hx
      have := HN5.out
      omega)))
  have HS12 := Aside0.mk (show w6.heap.size ≤ w12.heap.size from Nat.le_trans HN7.out.2 (Nat.le_trans D11.out.size hb.size))
  clear HM hb hsame hxl hxb D5 D7 D11 HR7 HC7 HI11 HG5 HRx HCx HGx HN5 HN5' nL
  have nL : decide (1 + 3 * (l.length : Int) < 0) = false := decide_eq_false (by omega)
  have HE := hET A2 A1 c2 c1 w12 (Kd.R_reads' HR12.out).2.2 HG2.out (Kd.C_below HC1.out D12.out) HG1.out
  go_wp2_with fail
  refine HE.mono ?_
  rintro e w13 ⟨rfl, hd⟩
  have D13 := Aside0.mk (Drawn0.below hd)
  clear HE hd
  have HI13 := Aside0.mk (HI12.out.below D13.out)
  have HG13 := Aside0.mk (HG12.out.below D13.out)
  obtain ⟨p0, p1, p2, p3, p4, p5⟩ := HI13.out
  obtain ⟨q0, q1, q2, q3, q4, q5⟩ := HG13.out
  go_wp2_with fail
  refine (eqRopes_same g _).mono ?_
  rintro e w14 ⟨rfl, hb⟩
  have D14 := Aside0.mk (below_chain D13.out hb)
  clear hb D13 HI13 HI12 HG13 p0 p1 p2 p3 p4 p5 q0 q1 q2 q3 q4 q5
  have HM := mark_any 1 T w6.heap.size (fun _ => True) (.slice A2 T.length c2) w14 (by omega) (by have := HT.out; have := HL.out; omega) (Nat.le_trans HS12.out D14.out.size) (Kd.R_below HR12.out D14.out)
  have nT : decide (1 + (T.length : Int) < 0) = false := decide_eq_false (by omega)
  go_wp2_with fail
  refine HM.mono ?_
  rintro e w15 ⟨rfl, hR, hb, _⟩
  have HR15 := Aside0.mk hR
  have D15 := Aside0.mk (show Below w4.heap.size w4 w15 from (below_chain D12.out D14.out).trans (hb.mono (by have := HN7.out; have := HS4.out; omega)))
  have HG15 := Aside0.mk ((HG12.out.below D14.out).same (hb.block w4.heap.size (by have := HN7.out; have := HS4.out; omega)))
  clear HM hR hb D12 D14 HR12 HG12
  have HH := held_any T.length (by have := HT.out; have := HL.out; omega) A2 c2 w6.heap.size _ w15 HR15.out
  go_wp2_with fail
  refine HH.mono ?_
  rintro e w16 ⟨rfl, hb⟩
  have D16 := Aside0.mk (below_chain D15.out hb)
  have HR16 := Aside0.mk (Kd.R_below HR15.out hb)
  have HG16 := Aside0.mk (HG15.out.below hb)
  have HB16 := Aside0.mk (HB4.out.below D16.out)
  clear HH hb D15 HR15 HG15
  obtain ⟨p0, p1, p2, p3, p4, p5⟩ := HB16.out
  go_wp2_with fail
  refine (toRopes_any f _).mono ?_
  rintro e w17 ⟨rfl, hb⟩
  have D17 := Aside0.mk (show Below w16.heap.size w16 w17 from hb)
  clear hb p0 p1 p2 p3 p4 p5
  go_wp2_with fail
  refine (hTo _ (Kd.C_below HC.out (below_chain (below_chain H4.out D16.out) D17.out))).mono ?_
  rintro e w18 ⟨v0, rfl, hR, hb⟩
  obtain ⟨A4, c4, rfl, hc4, hC4⟩ := Kd.R_reads hR
  have D18 := Aside0.mk (below_chain D17.out hb)
  have HI := hIm A4 c4 w18 hC4 hc4
  clear hb hR hc4 hC4 D17
  go_wp2_with fail
  refine HI.mono ?_
  rintro e w19 ⟨v0, rfl, hR, hb⟩
  obtain ⟨A5, c5, rfl, hc5, hC5⟩ := Kd.R_reads hR
  have D19 := Aside0.mk (below_chain D18.out hb)
  have HE := hET A5 A1 c5 c1 _ (Kd.C_below hC5 (below_alloc (Below.refl _ _) (.cells #[.int .i64 (g 0), .int .i64 (g 1), .int .i64 (g 2), .int .i64 (g 3), .int .i64 (g 4), .int .i64 (g 5)] 41 (0, 0)))) hc5 (Kd.C_below HC1.out (below_alloc (below_chain D16.out D19.out) _)) HG1.out
  clear hb hR hc5 hC5 D18 HI
  go_wp2_with fail
  refine HE.mono ?_
  rintro e w20 ⟨rfl, hd⟩
  have D20 := Aside0.mk (show Below w19.heap.size w19 w20 from below_chain (below_alloc (Below.refl _ _) _) (Drawn0.below hd))
  have HI20 := Aside0.mk ((box6_blk (heap_alloc_new w19 _)).below (Drawn0.below hd))
  have HG20 := Aside0.mk ((HG16.out.below D19.out).below D20.out)
  clear HE hd
  obtain ⟨p0, p1, p2, p3, p4, p5⟩ := HI20.out
  obtain ⟨q0, q1, q2, q3, q4, q5⟩ := HG20.out
  go_wp2_with fail
  refine (eqRopes_same g _).mono ?_
  rintro e w21 ⟨rfl, hb⟩
  have D21 := Aside0.mk (below_chain (below_chain D19.out D20.out) hb)
  clear hb D20 HI20 HG20 D19 p0 p1 p2 p3 p4 p5 q0 q1 q2 q3 q4 q5
  have HH := held_any T.length (by have := HT.out; have := HL.out; omega) A2 c2 w6.heap.size _ w21 (Kd.R_below HR16.out D21.out)
  go_wp2_with fail
  refine HH.mono ?_
  rintro e w22 ⟨rfl, hb⟩
  have HF := Aside0.mk (below_chain (below_chain (below_chain H4.out D16.out) D21.out) hb)
  clear HH hb
  go_wp2_with fail
  go_ret
  exact ⟨rfl, HF.out⟩
end Go.Proofs.Ytdbnajaimodnmaa
