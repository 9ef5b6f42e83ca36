/- VerifyChecksum (Door seat): the plain law and the walks. No statement of the seat is proved here. -/
import Derived.Test.YtidnebhdjkdofaaDoorSplit
import Derived.Test.YtidnebhdjkdofaaDoorShelfC
import Derived.Test.YtidnebhdjkdofaaDoorQStr1
namespace Go.Proofs.YtidnebhdjkdofaaDoor
open Go.RowKit Go.Proofs.YtidnebhdjkdofaaDoorW.PrintWords Go.Proofs.YtidnebhdjkdofaaDoor.QStr
set_option linter.unusedVariables false
set_option linter.unusedSimpArgs false
/-- the bound that the library's search reads -/
def ML (w : World) : Prop := ∃ m, w.cell? ⟨0, 0, none⟩ = some (.int .i64 m)
theorem ml_keep {w w' : World} (h : ML w) (hb : Below w.heap.size w w') : ML w' := by
  obtain ⟨m, hm⟩ := h
  exact ⟨m, keep_below hb hm⟩
theorem ml_shaped {w : World} (h : w.ShapedOpen Tryd.prog) : ML w := Tryd.laysM145.s1_3 w h
/-- what stands ahead of the first number sign -/
def tOf (s : ByteArray) : ByteArray := mkB (fstP 35 s.data.toList)
theorem tOf_size (s : ByteArray) : (tOf s).size ≤ s.size := by
  unfold tOf; rw [mkB_size, ← bytes_len s]; exact fstP_len _ _
theorem tOf_has (s : ByteArray) : has (tOf s) = false := by
  unfold has tOf; rw [mkB_list]; exact fstP_no _ _
def verR (s : ByteArray) (v : Int) : ByteArray × Bool := bif decide ((sumTx (tOf s) v).data.toList = s.data.toList ∧ s.size ≤ 4000) then (tOf s, true) else ((⟨#[]⟩ : ByteArray), false)
theorem seal_spec (p : ByteArray) (hp : p.size ≤ 1048576) (k : Nat) (hk : p.size < k) : ∃ v, 0 ≤ v ∧ v < 999979 ∧ spec_l1Seal.f k p = some (sumTx p v) ∧ impl_Checksum.f k p = some (bif decide (p.size ≤ 4000) then (v, true) else (0, false)) := by
  obtain ⟨v, a, b, c⟩ := sum_l0 p hp p.size k 0 7 (by omega) hk (by omega)
  have T := text_size c
  refine ⟨v, c.1, c.2, ?_, ?_⟩
  · unfold spec_l1Seal.f spec_l1Sum.f xL1Num.f
    have a' : spec_l1Sum.l0 k p 7 0 = some v := a
    rw [if_pos (by omega), a']
    simp only [Option.bind_some]
    rw [if_pos (by omega)]
    simp only [Option.bind_some]
    rw [if_pos (by rw [ByteArray.size_append]; show p.size + 1 + (textB v).size ≤ _; omega)]
    rfl
  · unfold impl_Checksum.f
    by_cases z : p.size ≤ 4000
    · rw [if_neg (by omega), decide_eq_true z]; exact b
    · rw [if_pos (by omega), decide_eq_false z]; rfl
theorem verify_spec (s : ByteArray) (hs : s.size ≤ 1048576) : ∃ v, 0 ≤ v ∧ v < 999979 ∧ (∃ k, spec_VerifyChecksum.f k s = some ((verR s v).1, (verR s v).2)) ∧ ∃ k, impl_Checksum.f k (tOf s) = some (bif decide ((tOf s).size ≤ 4000) then (v, true) else (0, false)) := by
  have ht := tOf_size s
  obtain ⟨v, v0, v1, a, b⟩ := seal_spec (tOf s) (by omega) (s.size + 1) (by omega)
  refine ⟨v, v0, v1, ⟨s.size + 1, ?_⟩, ⟨s.size + 1, b⟩⟩
  unfold spec_VerifyChecksum.f verR
  by_cases z : s.size ≤ 4000
  · obtain ⟨t, e⟩ := spA_head 35 s.data.toList []
    have sp := split_f 35 s hs (s.size + 1) (by omega)
    rw [e, List.map_cons, List.nil_append] at sp
    rw [if_neg (by omega), show (35 : Int) = ((35 : UInt8).toNat : Int) from rfl, sp]
    simp only [Option.bind_some]
    rw [if_pos (by simp only [List.length_cons]; omega), show rdOf ByteArray.empty (mkB (fstP 35 s.data.toList) :: List.map mkB t) 0 = tOf s from rfl, a]
    simp only [Option.bind_some]
    by_cases q : (sumTx (tOf s) v).data.toList = s.data.toList
    · have q' : sumTx (tOf s) v = s := by rw [← bytes_self (sumTx (tOf s) v), q, bytes_self]
      rw [if_pos ((tl_iff _ _).2 q'), decide_eq_true ⟨q, z⟩]; rfl
    · rw [if_neg (fun h => q (by rw [(tl_iff _ _).1 h])), decide_eq_false (fun h => q h.1)]; rfl
  · rw [if_pos (by omega), decide_eq_false (fun h => z h.2)]; rfl
theorem cut_any (s : ByteArray) (hs : s.size ≤ 1048576) (w : World) (hm : ML w) : ∃ t2 b, Calls Tryd.prog 54 #[.string s, .string ⟨#[35]⟩] w fun e w' => e = .returned (.tuple #[.string (tOf s), .string t2, .bool b]) ∧ Drawn0 w w' := by
  obtain ⟨m, hm⟩ := hm
  have h := Tryd.strings_Cut s ⟨#[35]⟩ m w (by omega) hm
  rw [show (⟨#[35]⟩ : ByteArray).data.toList = [35] from rfl, cut_fstP] at h
  exact ⟨_, _, h.mono fun e w' ⟨he, n, hw⟩ => ⟨he, ⟨n, hw⟩⟩⟩
set_option maxHeartbeats 1600000 in
theorem implVerify_any (s : ByteArray) (v : Int) (hv : 0 ≤ v ∧ v < 999979) (hs : s.size ≤ 1048576) (hk : ∃ k, impl_Checksum.f k (tOf s) = some (bif decide ((tOf s).size ≤ 4000) then (v, true) else (0, false))) (w : World) (ht : Tab w) (hm : ML w) :
    Calls Tryd.prog 22 #[.string s] w fun e w' => e = .returned (.tuple #[.string (verR s v).1, .bool (verR s v).2]) ∧ Below w.heap.size w w' := by
  have hz := tOf_size s
  have hA : ∀ n, Calls Tryd.prog 20 #[.string (tOf s)] (w.drewN n) fun e w' => e = .returned (.tuple #[.string (appR (tOf s) v).1, .bool (appR (tOf s) v).2]) ∧ Below w.heap.size w w' := fun n =>
    (implAppend_any (tOf s) v hv (by omega) hk (w.drewN n) (tab_keep ht (Drawn0.below ⟨n, rfl⟩))).mono fun e w' ⟨he, hb⟩ => ⟨he, by
      have b1 : Below w.heap.size w (w.drewN n) := Drawn0.below ⟨n, rfl⟩
      exact b1.trans hb⟩
  obtain ⟨t2, b2, hC⟩ := cut_any s hs w hm
  have SS := sumTx_size (tOf s) v
  have key : (verR s v = (tOf s, true) ∧ appR (tOf s) v = (s, true)) ∨ (verR s v = ((⟨#[]⟩ : ByteArray), false) ∧ ∃ r o, appR (tOf s) v = (r, o) ∧ (o = false ∨ (o = true ∧ (r.toList == s.toList) = false))) := by
    have nh := tOf_has s
    by_cases q : (sumTx (tOf s) v).data.toList = s.data.toList ∧ s.size ≤ 4000
    · left
      have q' : sumTx (tOf s) v = s := by rw [← bytes_self (sumTx (tOf s) v), q.1, bytes_self]
      refine ⟨by unfold verR; rw [decide_eq_true q]; rfl, ?_⟩
      unfold appR
      rw [nh, q', decide_eq_true (show (tOf s).size ≤ 4000 by omega), decide_eq_true q.2]; rfl
    · right
      refine ⟨by unfold verR; rw [decide_eq_false q]; rfl, (appR (tOf s) v).1, (appR (tOf s) v).2, rfl, ?_⟩
      unfold appR
      by_cases c1 : (decide ((tOf s).size ≤ 4000) && !has (tOf s) && decide ((sumTx (tOf s) v).size ≤ 4000)) = true
      · right
        rw [c1]
        refine ⟨rfl, ?_⟩
        simp only [cond_true]
        rw [Bool.eq_false_iff]
        intro h
        have h1 := (tl_iff _ _).1 (by simpa using h)
        simp only [Bool.and_eq_true, decide_eq_true_eq] at c1
        exact q ⟨by rw [h1], by rw [← h1]; exact c1.2⟩
      · left
        rw [Bool.eq_false_iff.2 c1]; rfl
  clear ht hm hk hv hz SS hs
  generalize tOf s = t at *
  rcases key with ⟨e1, e2⟩ | ⟨e1, r, o, e2, rfl | ⟨rfl, ne⟩⟩
  · rw [e1]
    rw [e2] at hA
    go_enter Tryd.func22, Tryd.ntmps22
    go_wp2_with (first | (go_at_call 54; refine hC.mono ?_; rintro e w' ⟨rfl, ⟨nd, rfl⟩⟩) | (go_at_call 20; refine (hA _).mono ?_; rintro e w' ⟨rfl, hb⟩) | (go_quiet (fail)) | fail)
    go_ret2
    exact ⟨rfl, hb⟩
  · rw [e1]
    rw [e2] at hA
    go_enter Tryd.func22, Tryd.ntmps22
    go_wp2_with (first | (go_at_call 54; refine hC.mono ?_; rintro e w' ⟨rfl, ⟨nd, rfl⟩⟩) | (go_at_call 20; refine (hA _).mono ?_; rintro e w' ⟨rfl, hb⟩) | (go_quiet (fail)) | fail)
    go_ret2
    exact ⟨rfl, hb⟩
  · rw [e1]
    rw [e2] at hA
    have ne2 : ¬ r.toList = s.toList := by simpa using ne
    have ne3 : (r.toList = s.toList) = False := eq_false ne2
    have ne4 : (r.toList != s.toList) = true := by simpa using ne2
    go_enter Tryd.func22, Tryd.ntmps22
    go_wp2_with (first | (go_at_call 54; refine hC.mono ?_; rintro e w' ⟨rfl, ⟨nd, rfl⟩⟩) | (go_at_call 20; refine (hA _).mono ?_; rintro e w' ⟨rfl, hb⟩) | (go_quiet (fail)) | fail)
    go_ret2
    exact ⟨rfl, hb⟩
set_option maxHeartbeats 1600000 in
theorem lawVerify_any (s : ByteArray) (w : World) (ht : Tab w) (hm : ML w) : Calls Tryd.prog 6 #[.string s] w fun e w' => e = .returned (.bool true) ∧ Below w.heap.size w w' := by
  by_cases big : s.size ≤ 1048576
  · have d1 : decide ((1048576 : Int) < (s.size : Int)) = false := decide_eq_false (by omega)
    have d2 : decide (1048576 < s.size) = false := decide_eq_false (by omega)
    obtain ⟨v, v0, v1, ⟨k, hS⟩, hK⟩ := verify_spec s big
    have hs := spec_VerifyChecksum.calls k s (verR s v).1 (verR s v).2 w hS
    have hi : ∀ W, Below w.heap.size w W → Calls Tryd.prog 22 #[.string s] W fun e w' => e = .returned (.tuple #[.string (verR s v).1, .bool (verR s v).2]) ∧ Below w.heap.size w w' := fun W hb =>
      (implVerify_any s v ⟨v0, v1⟩ big hK W (tab_keep ht hb) (ml_keep hm hb)).mono fun e w' ⟨he, hb2⟩ => ⟨he, below_chain hb hb2⟩
    clear ht hm hS hK v0 v1 big
    generalize (verR s v).1 = r at hs hi
    generalize (verR s v).2 = o at hs hi
    go_enter Tryd.func6, Tryd.ntmps6
    go_wp2_with (first | (go_at_call 21; refine hs.mono ?_; rintro e w1 ⟨rfl, hb1⟩; have HB := Aside0.mk hb1; clear hb1) | (go_at_call 22; refine (hi _ HB.out).mono ?_; rintro e w' ⟨rfl, hb⟩) | (go_quiet (fail)) | fail)
    go_ret
    exact ⟨rfl, hb⟩
  · have d1 : decide ((1048576 : Int) < (s.size : Int)) = true := decide_eq_true (by omega)
    have d2 : decide (1048576 < s.size) = true := decide_eq_true (by omega)
    clear ht hm
    go_enter Tryd.func6, Tryd.ntmps6
    go_wp2_with (first | (go_quiet (fail)) | fail)
    go_ret
    exact ⟨rfl, Below.refl _ _⟩
end Go.Proofs.YtidnebhdjkdofaaDoor
