/- Marks in a slice of strings (Door seat). No statement of the seat is proved here. -/
import Derived.Test.YtidnebhdjkdofaaDoorSplit
import Derived.Test.YtidnebhdjkdofaaDoorQStr3
import Derived.Test.YtidnebhdjkdofaaDoorWLast
namespace Go.Proofs.YtidnebhdjkdofaaDoor
open Go.RowKit Go.Proofs.YtidnebhdjkdofaaDoorW.PrintWords Go.Proofs.YtidnebhdjkdofaaDoorW.PrintLast Go.Proofs.YtidnebhdjkdofaaDoor.QStr
set_option linter.unusedVariables false
set_option linter.unusedSimpArgs false
theorem mark_l0 : ∀ (d k n : Nat) (x : ByteArray), n < 10 ^ d → n ≤ 999999 → d < k → x.size + d ≤ 1000 → ∃ r, laws_markText.l0 k (n : Int) x = some r
  | 0, k, n, x, hn, hm, hk, hx => by
    obtain ⟨k, rfl⟩ : ∃ m, k = m + 1 := ⟨k - 1, by omega⟩
    simp only [laws_markText.l0]
    rw [if_neg (by simp at hn; omega), if_pos (by omega)]
    exact ⟨_, rfl⟩
  | d + 1, k, n, x, hn, hm, hk, hx => by
    obtain ⟨k, rfl⟩ : ∃ m, k = m + 1 := ⟨k - 1, by omega⟩
    simp only [laws_markText.l0]
    by_cases c : 0 < n
    · rw [if_pos (by omega)]
      simp only [Option.bind_some]
      rw [if_pos (by rw [strOfNums_size]; simp only [List.length_cons, List.length_nil]; omega)]
      have e : wrap64 (Int.tdiv (n : Int) 10) = ((n / 10 : Nat) : Int) := by
        rw [Int.tdiv_eq_ediv_of_nonneg (by omega)]
        unfold wrap64; omega
      rw [e]
      exact mark_l0 d k (n / 10) _ (by rw [Nat.pow_succ] at hn; omega) (by omega) (by omega) (by rw [ByteArray.size_append, strOfNums_size]; simp only [List.length_cons, List.length_nil]; omega)
    · rw [if_neg (by omega), if_pos (by omega)]
      exact ⟨_, rfl⟩
/-- the mark of a place -/
def mt (n : Int) : ByteArray := (laws_markText.f 10 n).getD ⟨#[]⟩
theorem mark_f {n : Int} (h : 0 ≤ n ∧ n ≤ 999999) : ∀ j, laws_markText.f (10 + j) n = some (mt n)
  | 0 => by
    obtain ⟨m, rfl⟩ := Int.eq_ofNat_of_zero_le h.1
    have : ∃ r, laws_markText.f 10 (m : Int) = some r := by
      unfold laws_markText.f
      by_cases c : (m : Int) ≤ 0
      · exact ⟨_, if_pos c⟩
      · rw [if_neg c]
        exact mark_l0 6 10 m _ (by have h3 : (10 : Nat) ^ 6 = 1000000 := by decide
                                   omega) (by omega) (by omega) (by show 0 + 6 ≤ 1000; omega)
    obtain ⟨r, hr⟩ := this
    show laws_markText.f 10 (m : Int) = _
    unfold mt
    rw [hr]; rfl
  | j + 1 => laws_markText.mono n (10 + j) _ (mark_f h j)
def marks (n : Int) (len : Nat) : List ByteArray := (List.range len).map fun (i : Nat) => mt (n + (i : Int))
theorem marks_len (n : Int) (len : Nat) : (marks n len).length = len := by simp [marks]
theorem marks_rd (n : Int) {len i : Nat} (h : i < len) : rdOf ByteArray.empty (marks n len) (i : Int) = mt (n + i) := by
  simp [rdOf, marks, List.getD_eq_getElem?_getD, h]
theorem held_l0 (n : Int) (len : Nat) (h0 : 0 ≤ n) (hn : n + len ≤ 999999) : ∀ (d k i : Nat), i + d = len → d + 10 < k → laws_heldStringS.l0 k (marks n len) (n + (i : Int)) (i : Int) = some (n + (len : Int))
  | 0, k, i, hi, hk => by
    obtain ⟨k, rfl⟩ : ∃ m, k = m + 1 := ⟨k - 1, by omega⟩
    simp only [laws_heldStringS.l0]
    rw [marks_len, if_neg (by omega), show i = len by omega]
  | d + 1, k, i, hi, hk => by
    obtain ⟨k, rfl⟩ : ∃ m, k = m + 1 := ⟨k - 1, by omega⟩
    simp only [laws_heldStringS.l0]
    rw [marks_len, if_pos (by omega), if_pos (by omega)]
    have hm := mark_f (n := n + (i : Int)) (by omega) (k - 10)
    rw [show 10 + (k - 10) = k by omega] at hm
    rw [hm]
    simp only [Option.bind_some]
    rw [marks_rd n (by omega), if_pos rfl, show wrap64 (n + (i : Int) + 1) = n + ((i + 1 : Nat) : Int) by unfold wrap64; omega, show wrap64 ((i : Int) + 1) = ((i + 1 : Nat) : Int) by unfold wrap64; omega]
    exact held_l0 n len h0 hn d k (i + 1) (by omega) (by omega)
theorem held_f (n : Int) (len : Nat) (h0 : 0 ≤ n) (hn : n + len ≤ 999999) : laws_heldStringS.f (len + 11) (marks n len) n = some (n + (len : Int)) := by
  have := held_l0 n len h0 hn len (len + 11) 0 (by omega) (by omega)
  unfold laws_heldStringS.f
  simpa using this
theorem eqS_l0 (l : List ByteArray) (hl : l.length ≤ 1048576) : ∀ (d k i : Nat), i + d = l.length → d < k → laws_eqStringS.l0 k l l (i : Int) = some true
  | 0, k, i, h, hk => by
    obtain ⟨k, rfl⟩ : ∃ m, k = m + 1 := ⟨k - 1, by omega⟩
    simp only [laws_eqStringS.l0]
    rw [if_neg (by omega)]
  | d + 1, k, i, h, hk => by
    obtain ⟨k, rfl⟩ : ∃ m, k = m + 1 := ⟨k - 1, by omega⟩
    simp only [laws_eqStringS.l0]
    rw [if_pos (by omega), if_pos (by omega), if_pos (by omega), if_pos trivial, wrapN (n := l.length) (by omega) (by omega)]
    exact eqS_l0 l hl d k (i + 1) (by omega) (by omega)
theorem eqS_same (l : List ByteArray) (hl : l.length ≤ 1048576) : laws_eqStringS.f (l.length + 1) l l = some true := by
  unfold laws_eqStringS.f
  rw [if_pos rfl]
  exact eqS_l0 l hl l.length (l.length + 1) 0 (by omega) (by omega)
theorem marks_set (n : Int) (L : List ByteArray) {i : Nat} (h : i < L.length) : (marks n i ++ L.drop i).set i (mt (n + (i : Int))) = marks n (i + 1) ++ L.drop (i + 1) := by
  rw [List.set_append_right _ _ (by rw [marks_len]; exact Nat.le_refl _), marks_len, Nat.sub_self, List.drop_eq_getElem_cons h, List.set_cons_zero]
  simp [marks, List.range_succ]
theorem mark_len (n : Int) (L : List ByteArray) {i : Nat} (h : i ≤ L.length) : (marks n i ++ L.drop i).length = L.length := by
  rw [List.length_append, marks_len, List.length_drop]; omega
set_option maxHeartbeats 3200000 in
theorem mark_any (n0 : Int) (L : List ByteArray) (base : Nat) (v : Value) (w : World) (h0 : 0 ≤ n0) (hn : n0 + L.length ≤ 999999) (hbase : base ≤ w.heap.size) (hR : Kd.R Kd.string 9 w base (fun _ => True) v L) :
    Calls Tryd.prog 17 #[v, .int .i64 n0] w fun e w' => e = .returned (.int .i64 (n0 + (L.length : Int))) ∧ Kd.R Kd.string 9 w' base (fun _ => True) v (marks n0 L.length) ∧ Below base w w' := by
  obtain ⟨A, cp, rfl, hcp, hC⟩ := Kd.R_reads hR
  have HR := Aside0.mk hR
  have HBS := Aside0.mk hbase
  have HN := Aside0.mk (show 0 ≤ n0 ∧ n0 + (L.length : Int) ≤ 999999 from ⟨h0, hn⟩)
  clear hR hC hbase h0 hn
  go_enter Tryd.func17, Tryd.ntmps17
  go_wp2_with fail
  go_loopw [1, 5] (fun v1 v5 wr => ∃ (x a : Int), v5 = .int .i64 x ∧ v1 = .int .i64 a ∧ Aside0 (0 ≤ x ∧ x ≤ (L.length : Int) ∧ a = n0 + x) ∧ Aside0 (Kd.R Kd.string 9 wr base (fun _ => True) (.slice A L.length cp) (marks n0 x.toNat ++ L.drop x.toNat)) ∧ Aside0 (Below base w wr)) (fun _ v5 _ => L.length - (intOf v5).toNat)
  case atStart => exact ⟨0, n0, rfl, rfl, ⟨by omega, by omega, by omega⟩, ⟨by simpa [marks] using HR.out⟩, ⟨Below.refl _ _⟩⟩
  case round =>
    obtain ⟨x, a, rfl, rfl, HX, HO, HB⟩ := hrel
    by_cases c : x < (L.length : Int)
    · have c0 : decide (x < (L.length : Int)) = true := decide_eq_true c
      have hm := fun W => laws_markText.calls 10 a (mt a) W (mark_f (n := a) (by have := HX.out; have := HN.out; omega) 0)
      clear c
      go_wp2_with fail
      refine (hm _).mono ?_
      rintro e w1 ⟨rfl, hb⟩
      have HO1 := Aside0.mk (Kd.R_below HO.out hb)
      have HB1 := Aside0.mk (HB.out.trans (hb.mono (Nat.le_trans HBS.out HB.out.size)))
      clear hb HO HB hm
      have c := of_decide_eq_true c0
      have p9 : 0 ≤ (x : Int) := HX.out.1
      have el := mark_len n0 L (i := x.toNat) (by omega)
      have q9 : (x : Int) < (L.length : Int) := c
      obtain ⟨go9, co9, eo9, gb9, gl9, cl9, HG9⟩ := Kd.R_form HO1.out (by omega)
      injection eo9 with ea_ en_ ec_
      subst ea_
      subst ec_
      have GB9 := Aside0.mk gb9
      clear gb9 gl9 HG9 en_ el c
      obtain ⟨hx9_0, hf9_0⟩ := Kd.R_celln (⟨#[]⟩ : ByteArray) HO1.out (x : Int) p9 q9
      replace p9 := eq_true p9
      replace q9 := eq_true q9
      have HP10 := Kd.R_putg HO1.out (x : Int) (mt a)
      have HO2 := Aside0.mk HP10.1
      have HB2 := Aside0.mk (HB1.out.setCell (p := ⟨go9, (x : Int).toNat, none⟩) GB9.out (Value.string (mt a)))
      clear HP10 HO1 HB1
      go_wp2_with fail
      refine ⟨⟨x + 1, n0 + (x + 1), ?_, ?_, ⟨by have := HX.out.1; omega, by have := of_decide_eq_true c0; omega, rfl⟩, ⟨?_⟩, HB2⟩, ?_⟩
      · congr 1; have := HX.out; have := HN.out; have := of_decide_eq_true c0; unfold wrap64; omega
      · congr 1; have := HX.out; have := HN.out; have := of_decide_eq_true c0; unfold wrap64; omega
      · have e1 : (x + 1).toNat = x.toNat + 1 := by have := HX.out.1; omega
        have e2 : a = n0 + (x.toNat : Int) := by have := HX.out; omega
        rw [e1, ← marks_set n0 L (i := x.toNat) (by have := of_decide_eq_true c0; omega), ← e2]
        exact HO2.out
      · simp [intOf]
        have := HX.out; have := of_decide_eq_true c0; have := HN.out
        unfold wrap64; omega
    · have c0 : decide (x < (L.length : Int)) = false := decide_eq_false c
      have e1 : x = (L.length : Int) := by have := HX.out; omega
      have e2 : a = n0 + (L.length : Int) := by have := HX.out; omega
      go_wp2_with fail
      go_ret
      refine ⟨rfl, ?_, HB.out⟩
      have := HO.out
      rw [e1] at this
      simpa using this
end Go.Proofs.YtidnebhdjkdofaaDoor
