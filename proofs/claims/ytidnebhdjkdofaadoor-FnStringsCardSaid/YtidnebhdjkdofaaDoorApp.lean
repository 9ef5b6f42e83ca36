/- AppendChecksum (Door seat): the plain law and the walks. No statement of the seat is proved here. -/
import Derived.Test.YtidnebhdjkdofaaDoorSum
import Derived.Test.YtidnebhdjkdofaaDoorPEv
import Derived.Lib.IndexAny
import Derived.Test.YtidnebhdjkdofaaDoorQStr1
namespace Go.Proofs.YtidnebhdjkdofaaDoor
open Go.RowKit Go.Proofs.YtidnebhdjkdofaaDoorW.PrintWords Go.Proofs.YtidnebhdjkdofaaDoor.QStr
set_option linter.unusedVariables false
set_option linter.unusedSimpArgs false
theorem bytes_len (b : ByteArray) : b.data.toList.length = b.size := Array.length_toList
theorem wrapN {i n : Nat} (h : i < n) (hn : n ≤ 4611686018427387904) : wrap64 ((i : Int) + 1) = ((i + 1 : Nat) : Int) := by
  unfold wrap64; omega
theorem bt_list (p : ByteArray) (i : Nat) (h : i < p.data.toList.length) : bt p (i : Int) = ((p.data.toList[i]'h).toNat : Int) := by
  have hz : i < p.size := by rwa [bytes_len] at h
  unfold bt
  rw [Int.toNat_natCast, dif_pos hz]
  rfl
theorem stands_l0 (c : UInt8) (p : ByteArray) (hp : p.size ≤ 1048576) : ∀ (n k i : Nat), i + n = p.size → n < k → spec_l1Stands.l0 k p (c.toNat : Int) (i : Int) = some ((p.data.toList.drop i).contains c)
  | 0, k, i, hi, hk => by
    obtain ⟨k, rfl⟩ : ∃ m, k = m + 1 := ⟨k - 1, by omega⟩
    simp only [spec_l1Stands.l0]
    rw [if_neg (by omega), List.drop_eq_nil_of_le (by rw [bytes_len]; omega)]
    rfl
  | n + 1, k, i, hi, hk => by
    obtain ⟨k, rfl⟩ : ∃ m, k = m + 1 := ⟨k - 1, by omega⟩
    have hL : i < p.data.toList.length := by rw [bytes_len]; omega
    simp only [spec_l1Stands.l0]
    rw [if_pos (by omega), if_pos (by omega), bt_list p i hL, List.drop_eq_getElem_cons hL, List.contains_cons]
    by_cases q : p.data.toList[i] = c
    · rw [if_pos (by rw [q]), q]; simp
    · rw [if_neg (fun e => q (UInt8.toNat_inj.1 (by omega))), wrapN (n := p.size) (by omega) (by omega), stands_l0 c p hp n k (i + 1) (by omega) (by omega)]
      rw [show (c == p.data.toList[i]) = false by simpa using fun e => q e.symm, Bool.false_or]
theorem hash_step {h b : Int} (hh : 0 ≤ h ∧ h < 999979) (hb : 0 ≤ b ∧ b ≤ 255) : 0 ≤ Int.tmod (wrap64 ((wrap64 ((wrap64 (41 * h)) + (wrap64 b))) + 1)) 999979 ∧ Int.tmod (wrap64 ((wrap64 ((wrap64 (41 * h)) + (wrap64 b))) + 1)) 999979 < 999979 := by
  have e : wrap64 ((wrap64 ((wrap64 (41 * h)) + (wrap64 b))) + 1) = 41 * h + b + 1 := by unfold wrap64; omega
  rw [e, Int.tmod_eq_emod_of_nonneg (by omega)]
  omega
theorem sum_l0 (p : ByteArray) (hp : p.size ≤ 1048576) : ∀ (n k i : Nat) (h : Int), i + n = p.size → n < k → 0 ≤ h ∧ h < 999979 → ∃ v, spec_l1Sum.l0 k p h (i : Int) = some v ∧ impl_Checksum.l0 k p h (p.size : Int) (i : Int) = some (v, true) ∧ 0 ≤ v ∧ v < 999979
  | 0, k, i, h, hi, hk, hh => by
    obtain ⟨k, rfl⟩ : ∃ m, k = m + 1 := ⟨k - 1, by omega⟩
    refine ⟨h, ?_, ?_, hh⟩
    · simp only [spec_l1Sum.l0]; rw [if_neg (by omega)]
    · simp only [impl_Checksum.l0]; rw [if_neg (by omega)]
  | n + 1, k, i, h, hi, hk, hh => by
    obtain ⟨k, rfl⟩ : ∃ m, k = m + 1 := ⟨k - 1, by omega⟩
    obtain ⟨v, a, b, c⟩ := sum_l0 p hp n k (i + 1) _ (by omega) (by omega) (hash_step hh (bt_range p (i : Int)))
    refine ⟨v, ?_, ?_, c⟩
    · simp only [spec_l1Sum.l0]; rw [if_pos (by omega), if_pos (by omega), wrapN (n := p.size) (by omega) (by omega)]; exact a
    · simp only [impl_Checksum.l0]; rw [if_pos (by omega), if_pos (by omega), if_pos (by omega), wrapN (n := p.size) (by omega) (by omega)]; exact b
theorem text_size {v : Int} (h : 0 ≤ v ∧ v < 999979) : (textB v).size ≤ 1000000 := by
  obtain ⟨n, rfl⟩ := Int.eq_ofNat_of_zero_le h.1
  rw [textB_nat]
  have := numB_size n
  omega
def sumTx (s : ByteArray) (v : Int) : ByteArray := (s ++ (⟨#[35]⟩ : ByteArray)) ++ textB v
theorem sumTx_size (s : ByteArray) (v : Int) : (sumTx s v).size = s.size + 1 + (textB v).size := by
  unfold sumTx; rw [ByteArray.size_append, ByteArray.size_append]; rfl
def has (s : ByteArray) : Bool := s.data.toList.contains 35
def appR (s : ByteArray) (v : Int) : ByteArray × Bool := bif (decide (s.size ≤ 4000) && !has s && decide ((sumTx s v).size ≤ 4000)) then (sumTx s v, true) else ((⟨#[]⟩ : ByteArray), false)
theorem append_spec (s : ByteArray) (hs : s.size ≤ 1048576) : ∃ v, 0 ≤ v ∧ v < 999979 ∧ (∃ k, spec_AppendChecksum.f k s = some ((appR s v).1, (appR s v).2)) ∧ ∃ k, impl_Checksum.f k s = some (bif decide (s.size ≤ 4000) then (v, true) else (0, false)) := by
  obtain ⟨v, a, b, c⟩ := sum_l0 s hs s.size (s.size + 1) 0 7 (by omega) (by omega) (by omega)
  refine ⟨v, c.1, c.2, ⟨s.size + 1, ?_⟩, ⟨s.size + 1, ?_⟩⟩
  · have st : spec_l1Stands.f (s.size + 1) s 35 = some (has s) := by
      unfold spec_l1Stands.f
      exact stands_l0 35 s hs s.size (s.size + 1) 0 (by omega) (by omega)
    have T := text_size c
    have sl : spec_l1Seal.f (s.size + 1) s = some (sumTx s v) := by
      unfold spec_l1Seal.f spec_l1Sum.f xL1Num.f
      have a' : spec_l1Sum.l0 (s.size + 1) s 7 0 = some v := a
      rw [if_pos (by omega), a']
      simp only [Option.bind_some]
      rw [if_pos (by omega)]
      simp only [Option.bind_some]
      rw [if_pos (by rw [ByteArray.size_append]; show s.size + 1 + (textB v).size ≤ _; omega)]
      rfl
    unfold spec_AppendChecksum.f appR
    by_cases z : s.size ≤ 4000
    · rw [if_neg (by omega), st, decide_eq_true z]
      simp only [Option.bind_some]
      cases q : has s
      · rw [if_neg (by simp), sl]
        simp only [Option.bind_some]
  
        by_cases y : (sumTx s v).size ≤ 4000
        · rw [if_neg (by omega), decide_eq_true y]; rfl
        · rw [if_pos (by omega), decide_eq_false y]; rfl
      · rw [if_pos rfl]; rfl
    · rw [if_pos (by omega), decide_eq_false z]; rfl
  · unfold impl_Checksum.f
    by_cases z : s.size ≤ 4000
    · rw [if_neg (by omega), decide_eq_true z]; exact b
    · rw [if_pos (by omega), decide_eq_false z]; rfl
set_option maxHeartbeats 1600000 in
theorem implAppend_any (s : ByteArray) (v : Int) (hv : 0 ≤ v ∧ v < 999979) (hs : s.size ≤ 1048576) (hk : ∃ k, impl_Checksum.f k s = some (bif decide (s.size ≤ 4000) then (v, true) else (0, false))) (w : World) (ht : Tab w) :
    Calls Tryd.prog 20 #[.string s] w fun e w' => e = .returned (.tuple #[.string (appR s v).1, .bool (appR s v).2]) ∧ Below w.heap.size w w' := by
  obtain ⟨k, hk⟩ := hk
  have hcon : ∀ W, Calls Tryd.prog 53 #[.string s, .string ⟨#[35]⟩] W fun e w' => e = .returned (.bool (has s)) ∧ w' = W := fun W => (Tryd.strings_Contains_one s 35 W).mono fun e w' ⟨he, hw⟩ => ⟨by rw [he, has, Lib.contains_iff_indexByte], hw⟩
  by_cases z : s.size ≤ 4000
  · rw [decide_eq_true z] at hk
    have hC := fun W => impl_Checksum.calls k s v true W hk
    have hn : ∀ j, Calls Tryd.prog 46 #[.int .i64 v] (w.drewN j) fun e w' => e = .returned (.string (textB v)) ∧ Below w.heap.size w w' := fun j =>
      (Tryd.strconv_Itoa v (by omega) (by omega) (w.drewN j) (tab_keep ht (Drawn0.below ⟨j, rfl⟩))).mono fun e w' ⟨he, q, os, hw⟩ => ⟨he, by
        have b1 : Below w.heap.size w (w.drewN j) := Drawn0.below ⟨j, rfl⟩
        rw [hw]; exact b1.trans (grow_below (w.drewN j) q os)⟩
    have T := text_size hv
    have SS := sumTx_size s v
    clear hk ht hv
    unfold appR
    rw [decide_eq_true z]
    have sl : sumTx s v = (s ++ (⟨#[35]⟩ : ByteArray)) ++ textB v := rfl
    generalize textB v = t at hn T SS sl
    have n1 : (9223372036854775807 < s.size + 1) = False := eq_false (by omega)
    have n2 : (9223372036854775807 < s.size + 1 + t.size) = False := eq_false (by omega)
    cases q : has s
    · rw [q] at hcon
      by_cases y : (sumTx s v).size ≤ 4000
      · have d1 : decide ((4000 : Int) < (s.size : Int) + 1 + (t.size : Int)) = false := decide_eq_false (by omega)
        have d2 : decide (4000 < s.size + 1 + t.size) = false := decide_eq_false (by omega)
        rw [decide_eq_true y, sl]
        go_enter Tryd.func20, Tryd.ntmps20
        go_wp2_with (first | (go_at_call 52; refine (hC _).mono ?_; rintro e w' ⟨rfl, ⟨nd, rfl⟩⟩) | (go_at_call 53; refine (hcon _).mono ?_; rintro e w' ⟨rfl, rfl⟩) | (go_at_call 46; refine (hn _).mono ?_; rintro e w' ⟨rfl, hb⟩) | (go_quiet (fail)) | fail)
        go_ret2
        exact ⟨rfl, hb⟩
      · have d1 : decide ((4000 : Int) < (s.size : Int) + 1 + (t.size : Int)) = true := decide_eq_true (by omega)
        have d2 : decide (4000 < s.size + 1 + t.size) = true := decide_eq_true (by omega)
        rw [decide_eq_false y, sl]
        go_enter Tryd.func20, Tryd.ntmps20
        go_wp2_with (first | (go_at_call 52; refine (hC _).mono ?_; rintro e w' ⟨rfl, ⟨nd, rfl⟩⟩) | (go_at_call 53; refine (hcon _).mono ?_; rintro e w' ⟨rfl, rfl⟩) | (go_at_call 46; refine (hn _).mono ?_; rintro e w' ⟨rfl, hb⟩) | (go_quiet (fail)) | fail)
        go_ret2
        exact ⟨rfl, hb⟩
    · rw [q] at hcon
      clear hn
      go_enter Tryd.func20, Tryd.ntmps20
      go_wp2_with (first | (go_at_call 52; refine (hC _).mono ?_; rintro e w' ⟨rfl, ⟨nd, rfl⟩⟩) | (go_at_call 53; refine (hcon _).mono ?_; rintro e w' ⟨rfl, rfl⟩) | (go_quiet (fail)) | fail)
      go_ret2
      exact ⟨rfl, Drawn0.below ⟨_, rfl⟩⟩
  · rw [decide_eq_false z] at hk
    have hC := fun W => impl_Checksum.calls k s 0 false W hk
    clear hk ht hv
    unfold appR
    rw [decide_eq_false z]
    go_enter Tryd.func20, Tryd.ntmps20
    go_wp2_with (first | (go_at_call 52; refine (hC _).mono ?_; rintro e w' ⟨rfl, ⟨nd, rfl⟩⟩) | (go_at_call 53; refine (hcon _).mono ?_; rintro e w' ⟨rfl, rfl⟩) | (go_quiet (fail)) | fail)
    go_ret2
    exact ⟨rfl, Drawn0.below ⟨_, rfl⟩⟩
set_option maxHeartbeats 1600000 in
theorem lawAppend_any (s : ByteArray) (w : World) (ht : Tab w) : Calls Tryd.prog 5 #[.string s] w fun e w' => e = .returned (.bool true) ∧ Below w.heap.size w w' := by
  by_cases big : s.size ≤ 1048576
  · have d1 : decide ((1048576 : Int) < (s.size : Int)) = false := decide_eq_false (by omega)
    have d2 : decide (1048576 < s.size) = false := decide_eq_false (by omega)
    obtain ⟨v, v0, v1, ⟨k, hS⟩, hK⟩ := append_spec s big
    have hs := spec_AppendChecksum.calls k s (appR s v).1 (appR s v).2 w hS
    have hi : ∀ k, Calls Tryd.prog 20 #[.string s] (w.drewN k) fun e w' => e = .returned (.tuple #[.string (appR s v).1, .bool (appR s v).2]) ∧ Below w.heap.size w w' := fun k =>
      (implAppend_any s v ⟨v0, v1⟩ big hK (w.drewN k) (tab_keep ht (Drawn0.below ⟨k, rfl⟩))).mono fun e w' ⟨he, hb⟩ => ⟨he, by
        have b1 : Below w.heap.size w (w.drewN k) := Drawn0.below ⟨k, rfl⟩
        exact b1.trans hb⟩
    clear ht hS hK v0 v1 big
    generalize (appR s v).1 = r at hs hi
    generalize (appR s v).2 = o at hs hi
    go_enter Tryd.func5, Tryd.ntmps5
    go_wp2_with (first | (go_at_call 19; refine hs.mono ?_; rintro e w' ⟨rfl, ⟨nd, rfl⟩⟩) | (go_at_call 20; refine (hi _).mono ?_; rintro e w' ⟨rfl, hb⟩) | (go_quiet (fail)) | fail)
    go_ret
    exact ⟨rfl, hb⟩
  · have d1 : decide ((1048576 : Int) < (s.size : Int)) = true := decide_eq_true (by omega)
    have d2 : decide (1048576 < s.size) = true := decide_eq_true (by omega)
    clear ht
    go_enter Tryd.func5, Tryd.ntmps5
    go_wp2_with (first | (go_quiet (fail)) | fail)
    go_ret
    exact ⟨rfl, Below.refl _ _⟩
end Go.Proofs.YtidnebhdjkdofaaDoor
