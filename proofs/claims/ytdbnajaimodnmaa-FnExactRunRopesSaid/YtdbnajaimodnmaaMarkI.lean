/- Marks in a slice of ints. No statement of the seat is proved here. -/
import Derived.Test.YtdbnajaimodnmaaBase
import Derived.Test.YtdbnajaimodnmaaWLast
import Derived.Test.YtdbnajaimodnmaaQAll1
namespace Go.Proofs.Ytdbnajaimodnmaa
open Go.RowKit Go.Proofs.YtdbnajaimodnmaaW.PrintWords Go.Proofs.YtdbnajaimodnmaaW.PrintLast Go.Proofs.Ytdbnajaimodnmaa.QAll
set_option linter.unusedVariables false
set_option linter.unusedSimpArgs false
def marks (n : Int) (len : Nat) : List Int := (List.range len).map fun (i : Nat) => n + (i : Int)
theorem marks_len (n : Int) (len : Nat) : (marks n len).length = len := by simp [marks]
theorem marks_rd (n : Int) {len i : Nat} (h : i < len) : rd (marks n len) (i : Int) = n + i := by
  simp [rd, marks, List.getD_eq_getElem?_getD, h]
theorem held_l0 (n : Int) (len : Nat) (h0 : 0 ≤ n) (hn : n + len ≤ 4000000) : ∀ (d k i : Nat), i + d = len → d < k → laws_heldIntS.l0 k (marks n len) (n + (i : Int)) (i : Int) = some (n + (len : Int))
  | 0, k, i, hi, hk => by
    obtain ⟨k, rfl⟩ : ∃ m, k = m + 1 := ⟨k - 1, by omega⟩
    simp only [laws_heldIntS.l0]
    rw [marks_len, if_neg (by omega), show i = len by omega]
  | d + 1, k, i, hi, hk => by
    obtain ⟨k, rfl⟩ : ∃ m, k = m + 1 := ⟨k - 1, by omega⟩
    simp only [laws_heldIntS.l0]
    rw [marks_len, if_pos (by omega), if_pos (by omega), marks_rd n (by omega), if_pos rfl, show wrap64 (n + (i : Int) + 1) = n + ((i + 1 : Nat) : Int) by unfold wrap64; omega, show wrap64 ((i : Int) + 1) = ((i + 1 : Nat) : Int) by unfold wrap64; omega]
    exact held_l0 n len h0 hn d k (i + 1) (by omega) (by omega)
theorem held_f (n : Int) (len : Nat) (h0 : 0 ≤ n) (hn : n + len ≤ 4000000) : laws_heldIntS.f (len + 1) (marks n len) n = some (n + (len : Int)) := by
  have := held_l0 n len h0 hn len (len + 1) 0 (by omega) (by omega)
  unfold laws_heldIntS.f
  simpa using this
theorem marks_set (n : Int) (L : List Int) {i : Nat} (h : i < L.length) : (marks n i ++ L.drop i).set i (n + (i : Int)) = marks n (i + 1) ++ L.drop (i + 1) := by
  rw [List.set_append_right _ _ (by rw [marks_len]; exact Nat.le_refl _), marks_len, Nat.sub_self, List.drop_eq_getElem_cons h, List.set_cons_zero]
  simp [marks, List.range_succ]
theorem mark_len (n : Int) (L : List Int) {i : Nat} (h : i ≤ L.length) : (marks n i ++ L.drop i).length = L.length := by
  rw [List.length_append, marks_len, List.length_drop]; omega
set_option maxHeartbeats 3200000 in
theorem mark_any (n0 : Int) (L : List Int) (base : Nat) (ok : Nat → Prop) (v : Value) (w : World) (h0 : 0 ≤ n0) (hn : n0 + L.length ≤ 4000000) (hbase : base ≤ w.heap.size) (hR : Kd.R (Kd.int .i64) 3 w base ok v L) :
    Calls Try.prog 14 #[v, .int .i64 n0] w fun e w' => e = .returned (.int .i64 (n0 + (L.length : Int))) ∧ Kd.R (Kd.int .i64) 3 w' base ok v (marks n0 L.length) ∧ Below base w w' ∧ ∀ i, v.ownBlock ≠ some i → w'.heap[i]? = w.heap[i]? := by
  obtain ⟨A, cp, rfl, hcp, hC⟩ := Kd.R_reads hR
  have HR := Aside0.mk hR
  have HBS := Aside0.mk hbase
  have HN := Aside0.mk (show 0 ≤ n0 ∧ n0 + (L.length : Int) ≤ 4000000 from ⟨h0, hn⟩)
  clear hR hC hbase h0 hn
  go_enter Try.func14, Try.ntmps14
  go_wp2_with fail
  go_loopw [1, 5] (fun v1 v5 wr => ∃ (x a : Int), v5 = .int .i64 x ∧ v1 = .int .i64 a ∧ Aside0 (0 ≤ x ∧ x ≤ (L.length : Int) ∧ a = n0 + x) ∧ Aside0 (Kd.R (Kd.int .i64) 3 wr base ok (.slice A L.length cp) (marks n0 x.toNat ++ L.drop x.toNat)) ∧ Aside0 (Below base w wr) ∧ Aside0 (∀ i, (Value.slice A L.length cp).ownBlock ≠ some i → wr.heap[i]? = w.heap[i]?)) (fun _ v5 _ => L.length - (intOf v5).toNat)
  case atStart => exact ⟨0, n0, rfl, rfl, ⟨by omega, by omega, by omega⟩, ⟨by simpa [marks] using HR.out⟩, ⟨Below.refl _ _⟩, ⟨fun _ _ => rfl⟩⟩
  case round =>
    obtain ⟨x, a, rfl, rfl, HX, HO, HB, HK⟩ := hrel
    by_cases c : x < (L.length : Int)
    · have c0 : decide (x < (L.length : Int)) = true := decide_eq_true c
      have p9 : 0 ≤ (x : Int) := HX.out.1
      have el := mark_len n0 L (i := x.toNat) (by omega)
      have q9 : (x : Int) < (L.length : Int) := c
      obtain ⟨go9, co9, eo9, gb9, gl9, cl9, HG9⟩ := Kd.R_form HO.out (by omega)
      injection eo9 with ea_ en_ ec_
      subst ea_
      subst ec_
      have GB9 := Aside0.mk gb9
      clear gb9 gl9 HG9 en_ el c
      obtain ⟨hx9_0, hf9_0⟩ := Kd.R_celln (0 : Int) HO.out (x : Int) p9 q9
      replace p9 := eq_true p9
      replace q9 := eq_true q9
      have HO2 := Aside0.mk (Kd.R_putg HO.out (x : Int) a).1
      have HB2 := Aside0.mk (HB.out.setCell (p := ⟨go9, (x : Int).toNat, none⟩) GB9.out (Value.int .i64 a))
      have HK2 := Aside0.mk (show ∀ i, (Value.slice (some ⟨go9, 0, none⟩) L.length cp).ownBlock ≠ some i → (wr.setCell ⟨go9, (x : Int).toNat, none⟩ (.int .i64 a)).heap[i]? = w.heap[i]? from fun i hi => (Below.heap_setCell wr ⟨go9, (x : Int).toNat, none⟩ _ i (fun e => hi (by rw [e]; rfl))).trans (HK.out i hi))
      clear HO HB HK
      go_wp2_with fail
      refine ⟨⟨x + 1, n0 + (x + 1), ?_, ?_, ⟨by have := HX.out.1; omega, by have := of_decide_eq_true c0; omega, rfl⟩, ⟨?_⟩, HB2, HK2⟩, ?_⟩
      · congr 1; have := HX.out; have := HN.out; have := of_decide_eq_true c0; unfold wrap64; omega
      · congr 1; have := HX.out; have := HN.out; have := of_decide_eq_true c0; unfold wrap64; omega
      · have e1 : (x + 1).toNat = x.toNat + 1 := by have := HX.out.1; omega
        have e2 : a = n0 + (x.toNat : Int) := by have := HX.out; omega
        rw [e1, ← marks_set n0 L (i := x.toNat) (by have := of_decide_eq_true c0; omega), ← e2]
        exact HO2.out
      · simp [intOf]
        have := HX.out; have := of_decide_eq_true c0; have := HN.out
        unfold wrap64; omega
    · have c0 : decide (x < (L.length : Int)) = false := decide_eq_false c
      have e1 : x = (L.length : Int) := by have := HX.out; omega
      have e2 : a = n0 + (L.length : Int) := by have := HX.out; omega
      go_wp2_with fail
      go_ret
      refine ⟨rfl, ?_, HB.out, HK.out⟩
      have := HO.out
      rw [e1] at this
      simpa using this
theorem held_any (n : Nat) (hl : n ≤ 2000000) (A : Option Addr) (c : Nat) (base : Nat) (ok : Nat → Prop) (w : World) (h : Kd.R (Kd.int .i64) 3 w base ok (.slice A n c) (marks 1 n)) :
    Calls Try.prog 15 #[.slice A n c, .int .i64 1] w fun e w' => e = .returned (.int .i64 (1 + (n : Int))) ∧ Below w.heap.size w w' := by
  obtain ⟨_, hc, hC⟩ := Kd.R_reads' h
  have := laws_heldIntS.calls (n + 1) A c (marks 1 n) 1 (1 + (n : Int)) w hC (by rw [marks_len]; exact hc) (held_f 1 n (by omega) (by omega))
  rw [marks_len] at this
  exact this.mono fun e w' ⟨he, hb⟩ => ⟨he, Drawn0.below hb⟩
end Go.Proofs.Ytdbnajaimodnmaa
