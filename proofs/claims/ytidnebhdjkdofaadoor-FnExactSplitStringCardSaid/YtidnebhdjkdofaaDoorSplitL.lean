/- SplitString (Door seat): the law's walk. No statement of the seat is proved here. -/
import Derived.Test.YtidnebhdjkdofaaDoorSplitW
import Derived.Test.YtidnebhdjkdofaaDoorMark
namespace Go.Proofs.YtidnebhdjkdofaaDoor
open Go.RowKit Go.Proofs.YtidnebhdjkdofaaDoorW.PrintWords Go.Proofs.YtidnebhdjkdofaaDoorW.PrintLast Go.Proofs.YtidnebhdjkdofaaDoor.QStr
set_option linter.unusedVariables false
set_option linter.unusedSimpArgs false
theorem eq_any (L : List ByteArray) (hl : L.length ≤ 4001) (A0 A1 : Option Addr) (c0 c1 : Nat) (w : World) (h0 : Kd.C Kd.string w A0 L.length L) (g0 : L.length ≤ c0) (h1 : Kd.C Kd.string w A1 L.length L) (g1 : L.length ≤ c1) :
    Calls Tryd.prog 16 #[.slice A0 L.length c0, .slice A1 L.length c1] w fun e w' => e = .returned (.bool true) ∧ Drawn0 w w' :=
  laws_eqStringS.calls (L.length + 1) A0 c0 L A1 c1 L true w h0 g0 h1 g1 (eqS_same L (by omega))
theorem held_any (n : Nat) (hl : n ≤ 4001) (A : Option Addr) (c : Nat) (base : Nat) (w : World) (h : Kd.R Kd.string 9 w base (fun _ => True) (.slice A n c) (marks 1 n)) :
    Calls Tryd.prog 18 #[.slice A n c, .int .i64 1] w fun e w' => e = .returned (.int .i64 (1 + (n : Int))) ∧ Below w.heap.size w w' := by
  obtain ⟨_, hc, hC⟩ := Kd.R_reads' h
  have := laws_heldStringS.calls (n + 11) A c (marks 1 n) 1 (1 + (n : Int)) w hC (by rw [marks_len]; exact hc) (held_f 1 n (by omega) (by omega))
  rw [marks_len] at this
  exact this
set_option maxHeartbeats 3200000 in
theorem lawSplit_main (s sep : ByteArray) (w : World) (hm : ML w) (big : s.size ≤ 1048576) (big2 : sep.size ≤ 1048576) : Calls Tryd.prog 4 #[.string s, .string sep] w fun e w' => e = .returned (.bool true) ∧ Below w.heap.size w w' := by
  have d1 : decide ((1048576 : Int) < (s.size : Int)) = false := decide_eq_false (by omega)
  have d2 : decide (1048576 < s.size) = false := decide_eq_false (by omega)
  have d3 : decide ((1048576 : Int) < (sep.size : Int)) = false := decide_eq_false (by omega)
  have d4 : decide (1048576 < sep.size) = false := decide_eq_false (by omega)
  obtain ⟨k, hS⟩ := split_spec s sep big
  have hs := spec_SplitString.calls k s sep (spR s sep).1 (spR s sep).2 w hS
  have hi : ∀ W, Below w.heap.size w W → Calls Tryd.prog 15 #[.string s, .string sep] W fun e w' => ∃ v, e = .returned (.tuple #[v, .bool (spR s sep).2]) ∧ Kd.R Kd.string 9 w' W.heap.size (fun _ => True) v (spR s sep).1 ∧ Below W.heap.size W w' := fun W hb => implSplit_any s sep W (ml_keep hm hb)
  have hl := spR_len s sep
  clear hm hS big big2
  generalize (spR s sep).1 = L at hs hi hl
  generalize (spR s sep).2 = o at hs hi
  have HL := Aside0.mk hl
  have n1 : decide (1 + (L.length : Int) < 0) = false := decide_eq_false (by omega)
  clear hl
  go_enter Tryd.func4, Tryd.ntmps4
  go_wp2_with fail
  refine hs.mono ?_
  rintro e w1 ⟨v0, rfl, hR0, hb1⟩
  obtain ⟨A0, c0, rfl, hc0, hC0⟩ := Kd.R_reads hR0
  have HC0 := Aside0.mk hC0
  have HG0 := Aside0.mk hc0
  have HB1 := Aside0.mk hb1
  clear hs hR0 hb1 hC0 hc0
  go_wp2_with fail
  refine (hi _ HB1.out).mono ?_
  rintro e w2 ⟨v1, rfl, hR1, hb2⟩
  obtain ⟨A1, c1, rfl, hc1, hC1⟩ := Kd.R_reads hR1
  have HR1 := Aside0.mk hR1
  have HG1 := Aside0.mk hc1
  have HB2 := Aside0.mk hb2
  have HE := eq_any L HL.out A1 A0 c1 c0 w2 hC1 HG1.out (Kd.C_below HC0.out HB2.out) HG0.out
  clear hR1 hC1 hc1 hb2
  go_wp2_with fail
  refine HE.mono ?_
  rintro e w2' ⟨rfl, ⟨nd, rfl⟩⟩
  clear HE
  have HR2 := Aside0.mk (show Kd.R Kd.string 9 (w2.drewN nd) w1.heap.size (fun _ => True) (.slice A1 L.length c1) L by (with_reducible repeat (first | apply Kd.R_alloc | apply Kd.R_drewN | apply Kd.R_drew)); exact HR1.out)
  have HB3 := Aside0.mk (show Below w1.heap.size w1 (w2.drewN nd) from bl_drewN nd HB2.out)
  clear HR1 HB2
  have HM := mark_any 1 L w1.heap.size (.slice A1 L.length c1) (w2.drewN nd) (by omega) (by have := HL.out; omega) HB3.out.size HR2.out
  go_wp2_with fail
  refine HM.mono ?_
  rintro e w3 ⟨rfl, hR3, hb3⟩
  have HR3 := Aside0.mk hR3
  have HB4 := Aside0.mk (HB3.out.trans hb3)
  clear HM HR2 HB3 hR3 hb3
  have HH := held_any L.length HL.out A1 c1 w1.heap.size w3 HR3.out
  go_wp2_with fail
  refine HH.mono ?_
  rintro e w4 ⟨rfl, hb4⟩
  have HR4 := Aside0.mk (Kd.R_below HR3.out hb4)
  have HB5 := Aside0.mk (below_chain HB4.out hb4)
  clear HH HR3 HB4 hb4
  go_wp2_with fail
  refine (hi _ (below_chain HB1.out HB5.out)).mono ?_
  rintro e w5 ⟨v2, rfl, hR5, hb5⟩
  obtain ⟨A2, c2, rfl, hc2, hC2⟩ := Kd.R_reads hR5
  have HR6 := Aside0.mk (Kd.R_below HR4.out hb5)
  have HB6 := Aside0.mk (below_chain HB5.out hb5)
  have HE := eq_any L HL.out A2 A0 c2 c0 w5 hC2 hc2 (Kd.C_below HC0.out HB6.out) HG0.out
  clear hR5 hC2 hc2 hb5 HR4 HB5
  go_wp2_with fail
  refine HE.mono ?_
  rintro e w6 ⟨rfl, ⟨nd2, rfl⟩⟩
  clear HE
  have HR7 := Aside0.mk (show Kd.R Kd.string 9 (w5.drewN nd2) w1.heap.size (fun _ => True) (.slice A1 L.length c1) (marks 1 L.length) by (with_reducible repeat (first | apply Kd.R_alloc | apply Kd.R_drewN | apply Kd.R_drew)); exact HR6.out)
  have HH := held_any L.length HL.out A1 c1 w1.heap.size _ HR7.out
  have HB7 := Aside0.mk (show Below w.heap.size w (w5.drewN nd2) from bl_drewN nd2 (below_chain HB1.out HB6.out))
  clear HR6 HR7 HB6
  go_wp2_with fail
  refine HH.mono ?_
  rintro e w7 ⟨rfl, hb7⟩
  have HB8 := Aside0.mk (below_chain HB7.out hb7)
  clear HH hb7 HB7
  go_wp2_with fail
  go_ret
  exact ⟨rfl, HB8.out⟩
set_option maxHeartbeats 1600000 in
theorem lawSplit_any (s sep : ByteArray) (w : World) (hm : ML w) : Calls Tryd.prog 4 #[.string s, .string sep] w fun e w' => e = .returned (.bool true) ∧ Below w.heap.size w w' := by
  by_cases big : s.size ≤ 1048576
  · by_cases big2 : sep.size ≤ 1048576
    · exact lawSplit_main s sep w hm big big2
    · have d1 : decide ((1048576 : Int) < (s.size : Int)) = false := decide_eq_false (by omega)
      have d2 : decide (1048576 < s.size) = false := decide_eq_false (by omega)
      have d3 : decide ((1048576 : Int) < (sep.size : Int)) = true := decide_eq_true (by omega)
      have d4 : decide (1048576 < sep.size) = true := decide_eq_true (by omega)
      clear hm
      go_enter Tryd.func4, Tryd.ntmps4
      go_wp2_with (first | (go_quiet (fail)) | fail)
      go_ret
      exact ⟨rfl, Below.refl _ _⟩
  · have d1 : decide ((1048576 : Int) < (s.size : Int)) = true := decide_eq_true (by omega)
    have d2 : decide (1048576 < s.size) = true := decide_eq_true (by omega)
    clear hm
    go_enter Tryd.func4, Tryd.ntmps4
    go_wp2_with (first | (go_quiet (fail)) | fail)
    go_ret
    exact ⟨rfl, Below.refl _ _⟩
end Go.Proofs.YtidnebhdjkdofaaDoor
