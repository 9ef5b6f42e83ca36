/- Texts of kits (Door seat). No statement of the seat is proved here. -/
import Derived.Test.YtidnebhdjkdofaaDoorBase
import Derived.Test.YtidnebhdjkdofaaDoorSum
namespace Go.Proofs.YtidnebhdjkdofaaDoor
open Go.RowKit Go.Proofs.YtidnebhdjkdofaaDoorW.PrintWords
set_option linter.unusedVariables false
set_option linter.unusedSimpArgs false
def spB : ByteArray := ⟨#[32]⟩
/-- the text of a kit, as the reference builds it -/
def kitB (k : Nat → Int) : ByteArray := (((((((⟨#[]⟩ : ByteArray) ++ textB (k 0)) ++ spB) ++ textB (k 1)) ++ spB) ++ textB (k 2)) ++ spB) ++ textB (k 3)
theorem text_size30 {v : Int} (h : 0 ≤ v ∧ v ≤ 30) : (textB v).size ≤ 31 := by
  obtain ⟨n, rfl⟩ := Int.eq_ofNat_of_zero_le h.1
  rw [textB_nat]
  have := numB_size n
  omega
theorem empty_append (p : ByteArray) : (⟨#[]⟩ : ByteArray) ++ p = p := by
  have : ((⟨#[]⟩ : ByteArray) ++ p).data.toList = p.data.toList := by rw [bytes_append]; rfl
  rw [← bytes_self ((⟨#[]⟩ : ByteArray) ++ p), this, bytes_self]
set_option maxHeartbeats 3200000 in
set_option maxRecDepth 100000 in
theorem l2Text_any (k : Nat → Int) (hk : isKitB k = true) (w : World) : Calls Tryd.prog 64 #[A4 k] w fun e w' => e = .returned (.string (kitB k)) ∧ Below w.heap.size w w' := by
  have b0 := kit_bounds hk 0 (by omega)
  have b1 := kit_bounds hk 1 (by omega)
  have b2 := kit_bounds hk 2 (by omega)
  have b3 := kit_bounds hk 3 (by omega)
  have h0 := l1Num_any (k 0) (by omega)
  have h1 := l1Num_any (k 1) (by omega)
  have h2 := l1Num_any (k 2) (by omega)
  have h3 := l1Num_any (k 3) (by omega)
  have s0 := text_size30 b0
  have s1 := text_size30 b1
  have s2 := text_size30 b2
  have s3 := text_size30 b3
  unfold kitB spB
  rw [empty_append]
  generalize textB (k 0) = t0 at *
  generalize textB (k 1) = t1 at *
  generalize textB (k 2) = t2 at *
  generalize textB (k 3) = t3 at *
  have n0 : (9223372036854775807 < t0.size) = False := eq_false (by omega)
  have n1 : (9223372036854775807 < t0.size + 1) = False := eq_false (by omega)
  have n2 : (9223372036854775807 < t0.size + 1 + t1.size) = False := eq_false (by omega)
  have n3 : (9223372036854775807 < t0.size + 1 + t1.size + 1) = False := eq_false (by omega)
  have n4 : (9223372036854775807 < t0.size + 1 + t1.size + 1 + t2.size) = False := eq_false (by omega)
  have n5 : (9223372036854775807 < t0.size + 1 + t1.size + 1 + t2.size + 1) = False := eq_false (by omega)
  have n6 : (9223372036854775807 < t0.size + 1 + t1.size + 1 + t2.size + 1 + t3.size) = False := eq_false (by omega)
  clear b0 b1 b2 b3 hk n0 n1 n2 n3 n4 n5 n6
  obtain ⟨pre, hp0, hp1, hp2, hp3, hp4⟩ : ∃ pre : Nat → ByteArray, pre 0 = ⟨#[]⟩ ∧ pre 1 = t0 ∧ pre 2 = (t0 ++ (⟨#[32]⟩ : ByteArray)) ++ t1 ∧ pre 3 = (((t0 ++ (⟨#[32]⟩ : ByteArray)) ++ t1) ++ (⟨#[32]⟩ : ByteArray)) ++ t2 ∧ pre 4 = (((((t0 ++ (⟨#[32]⟩ : ByteArray)) ++ t1) ++ (⟨#[32]⟩ : ByteArray)) ++ t2) ++ (⟨#[32]⟩ : ByteArray)) ++ t3 :=
    ⟨fun | 0 => ⟨#[]⟩ | 1 => t0 | 2 => (t0 ++ (⟨#[32]⟩ : ByteArray)) ++ t1 | 3 => (((t0 ++ (⟨#[32]⟩ : ByteArray)) ++ t1) ++ (⟨#[32]⟩ : ByteArray)) ++ t2 | _ => (((((t0 ++ (⟨#[32]⟩ : ByteArray)) ++ t1) ++ (⟨#[32]⟩ : ByteArray)) ++ t2) ++ (⟨#[32]⟩ : ByteArray)) ++ t3, rfl, rfl, rfl, rfl, rfl⟩
  have HP0 := Aside0.mk hp0
  have HP1 := Aside0.mk hp1
  have HP2 := Aside0.mk hp2
  have HP3 := Aside0.mk hp3
  have HP4 := Aside0.mk hp4
  have HZ := Aside0.mk (show (pre 0).size + t0.size ≤ 1000 ∧ (pre 1).size + t1.size ≤ 1000 ∧ (pre 2).size + t2.size ≤ 1000 ∧ (pre 3).size + t3.size ≤ 1000 by
    rw [hp0, hp1, hp2, hp3]
    simp only [ByteArray.size_append]
    have o : (⟨#[32]⟩ : ByteArray).size = 1 := rfl
    have o2 : (⟨#[]⟩ : ByteArray).size = 0 := rfl
    rw [o, o2]
    omega)
  clear hp0 hp1 hp2 hp3 hp4 s0 s1 s2 s3
  go_enter Tryd.func64, Tryd.ntmps64
  go_wp2_with fail
  go_loopw [3, 4] (fun v3 v4 wr => ∃ j : Nat, j ≤ 4 ∧ v4 = .int .i64 j ∧ v3 = .string (pre j) ∧ Aside0 (wr.heap[w.heap.size]? = some (.cells #[.int .i64 (k 0), .int .i64 (k 1), .int .i64 (k 2), .int .i64 (k 3)] 49 (0, 0))) ∧ Aside0 (Below w.heap.size w wr)) (fun _ v4 _ => 4 - (intOf v4).toNat)
  case atStart => exact ⟨0, by omega, rfl, by rw [HP0.out], ⟨heap_alloc_new w _⟩, ⟨below_alloc (Below.refl _ _) _⟩⟩
  case round =>
    obtain ⟨j, hj, rfl, rfl, HK, HB⟩ := hrel
    obtain rfl | rfl | rfl | rfl | rfl : j = 0 ∨ j = 1 ∨ j = 2 ∨ j = 3 ∨ j = 4 := by omega
    · have a := (blk_cell HK.out 0).trans rfl
      have z1 : (9223372036854775807 < (pre 0).size + 1) = False := eq_false (by have := HZ.out; omega)
      have z2 : (9223372036854775807 < (pre 0).size + t0.size) = False := eq_false (by have := HZ.out; omega)
      go_wp2_with (first | (go_at_call 44; refine (h0 _).mono ?_; rintro e w' ⟨rfl, ⟨nd, rfl⟩⟩) | fail)
      refine ⟨⟨1, by omega, rfl, by rw [HP0.out, HP1.out, empty_append], ⟨HK.out⟩, ⟨below_chain HB.out (Drawn0.below ⟨nd, rfl⟩)⟩⟩, by simp [intOf]⟩
    · have a := (blk_cell HK.out 1).trans rfl
      have z1 : (9223372036854775807 < (pre 1).size + 1) = False := eq_false (by have := HZ.out; omega)
      have z2 : (9223372036854775807 < (pre 1).size + 1 + t1.size) = False := eq_false (by have := HZ.out; omega)
      go_wp2_with (first | (go_at_call 44; refine (h1 _).mono ?_; rintro e w' ⟨rfl, ⟨nd, rfl⟩⟩) | fail)
      refine ⟨⟨2, by omega, rfl, by rw [HP1.out, HP2.out], ⟨HK.out⟩, ⟨below_chain HB.out (Drawn0.below ⟨nd, rfl⟩)⟩⟩, by simp [intOf]⟩
    · have a := (blk_cell HK.out 2).trans rfl
      have z1 : (9223372036854775807 < (pre 2).size + 1) = False := eq_false (by have := HZ.out; omega)
      have z2 : (9223372036854775807 < (pre 2).size + 1 + t2.size) = False := eq_false (by have := HZ.out; omega)
      go_wp2_with (first | (go_at_call 44; refine (h2 _).mono ?_; rintro e w' ⟨rfl, ⟨nd, rfl⟩⟩) | fail)
      refine ⟨⟨3, by omega, rfl, by rw [HP2.out, HP3.out], ⟨HK.out⟩, ⟨below_chain HB.out (Drawn0.below ⟨nd, rfl⟩)⟩⟩, by simp [intOf]⟩
    · have a := (blk_cell HK.out 3).trans rfl
      have z1 : (9223372036854775807 < (pre 3).size + 1) = False := eq_false (by have := HZ.out; omega)
      have z2 : (9223372036854775807 < (pre 3).size + 1 + t3.size) = False := eq_false (by have := HZ.out; omega)
      go_wp2_with (first | (go_at_call 44; refine (h3 _).mono ?_; rintro e w' ⟨rfl, ⟨nd, rfl⟩⟩) | fail)
      refine ⟨⟨4, by omega, rfl, by rw [HP3.out, HP4.out], ⟨HK.out⟩, ⟨below_chain HB.out (Drawn0.below ⟨nd, rfl⟩)⟩⟩, by simp [intOf]⟩
    · go_wp2_with fail
      go_ret
      exact ⟨by rw [HP4.out]; rfl, HB.out⟩
end Go.Proofs.YtidnebhdjkdofaaDoor
