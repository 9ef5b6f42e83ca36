/- Contracts of numbers and their texts (Door seat). No statement of the seat is proved here. -/
import Derived.Test.YtidnebhdjkdofaaDoorBase
import Derived.Test.YtidnebhdjkdofaaDoorShelf
import Derived.Test.YtidnebhdjkdofaaDoorWWords
namespace Go.Proofs.YtidnebhdjkdofaaDoor
open Go.RowKit Go.Proofs.YtidnebhdjkdofaaDoorW.PrintWords
set_option linter.unusedVariables false
set_option linter.unusedSimpArgs false
def numB (n : Nat) : ByteArray := ⟨(Lib.decDigits n).toArray⟩
def digs : ByteArray := ⟨#[48, 49, 50, 51, 52, 53, 54, 55, 56, 57]⟩
theorem dig_one : ∀ n, n < 10 → digs.extract n (n + 1) = ⟨#[UInt8.ofNat (48 + n)]⟩ := by
  intro n hn
  obtain rfl | rfl | rfl | rfl | rfl | rfl | rfl | rfl | rfl | rfl : n = 0 ∨ n = 1 ∨ n = 2 ∨ n = 3 ∨ n = 4 ∨ n = 5 ∨ n = 6 ∨ n = 7 ∨ n = 8 ∨ n = 9 := by omega
  all_goals rfl
theorem numB_small {n : Nat} (h : n < 10) : numB n = digs.extract n (n + 1) := by
  rw [dig_one n h, numB, Lib.decDigits, dif_pos h]
theorem bytes_append (a b : ByteArray) : (a ++ b).data.toList = a.data.toList ++ b.data.toList := by simp
theorem bytes_self (b : ByteArray) : (⟨b.data.toList.toArray⟩ : ByteArray) = b := by cases b; simp
theorem numB_big {n : Nat} (h : ¬ n < 10) : numB n = numB (n / 10) ++ digs.extract (n % 10) (n % 10 + 1) := by
  rw [dig_one (n % 10) (by omega)]
  rw [← bytes_self (numB (n / 10) ++ _), bytes_append]
  rw [numB, Lib.decDigits, dif_neg h]
  simp [numB]
theorem numB_size : ∀ n, (numB n).size ≤ n + 1 := by
  intro n
  induction n using Nat.strongRecOn with
  | _ n ih =>
    by_cases h : n < 10
    · rw [numB, Lib.decDigits, dif_pos h]; simp [ByteArray.size]
    · rw [numB_big h, dig_one _ (by omega)]
      have := ih (n / 10) (by omega)
      rw [show (numB (n / 10) ++ (⟨#[UInt8.ofNat (48 + n % 10)]⟩ : ByteArray)).size = (numB (n / 10)).size + 1 by rw [ByteArray.size_append]; rfl]
      omega
set_option maxHeartbeats 1600000 in
theorem l1Num_nat : ∀ (n : Nat), n ≤ 999999 → ∀ w : World, Calls Tryd.prog 44 #[.int .i64 (n : Int)] w fun e w' => e = .returned (.string (numB n)) ∧ Drawn0 w w' := by
  intro n
  induction n using Nat.strongRecOn with
  | _ n ih =>
    intro hn w
    have c0 : decide ((n : Int) < 0) = false := decide_eq_false (by omega)
    have w1 : wrap64 ((n : Int) + 1) = (n : Int) + 1 := by unfold wrap64; omega
    by_cases c : n < 10
    · have c1 : decide ((n : Int) < 10) = true := decide_eq_true (by omega)
      have c2 : decide (n < 10) = true := decide_eq_true c
      have p0 : (0 : Int) ≤ (n : Int) := by omega
      have p1 : (n : Int) ≤ (n : Int) + 1 := by omega
      have p2 : (n : Int) + 1 ≤ 10 := by omega
      have p3 : n + 1 ≤ 10 := by omega
      have e := numB_small c
      unfold digs at e
      go_enter Tryd.func44, Tryd.ntmps44
      go_wp2_with fail
      go_ret
      exact ⟨by rw [e]; rfl, Drawn0.refl _⟩
    · have c1 : decide ((n : Int) < 10) = false := decide_eq_false (by omega)
      have c2 : decide (n < 10) = false := decide_eq_false c
      have e1 : (n : Int).tdiv 10 = ((n / 10 : Nat) : Int) := by rw [Int.tdiv_eq_ediv_of_nonneg (by omega)]; rfl
      have e2 : (n : Int).tmod 10 = ((n % 10 : Nat) : Int) := by rw [Int.tmod_eq_emod_of_nonneg (by omega)]; rfl
      have e3 : wrap64 ((n / 10 : Nat) : Int) = ((n / 10 : Nat) : Int) := by unfold wrap64; omega
      have e4 : wrap64 (((n % 10 : Nat) : Int) + 1) = ((n % 10 : Nat) : Int) + 1 := by unfold wrap64; omega
      have ih' := ih (n / 10) (by omega) (by omega)
      go_enter Tryd.func44, Tryd.ntmps44
      go_wp2_with fail
      have s0 := numB_size (n / 10)
      have p0 : (0 : Int) ≤ (n : Int) % 10 := by omega
      have p1 : (n : Int) % 10 ≤ (n : Int) % 10 + 1 := by omega
      have p2 : (n : Int) % 10 + 1 ≤ 10 := by omega
      repeat (go_quiet (first | (go_at_call 44; refine (ih' _).mono ?_; rintro e w' ⟨rfl, ⟨nd, rfl⟩⟩; (try first | exact ⟨rfl, _, World.drewN_drewN _ _ _⟩ | exact ⟨rfl, _, Eq.trans (World.drewN_drewN _ _ _) (congrArg (World.drewN _) (Nat.add_assoc _ _ _))⟩)) | fail))
      go_wp2_with fail
      have eb := numB_big c
      unfold digs at eb
      go_ret
      exact ⟨by rw [eb]; rfl, ⟨_, rfl⟩⟩
/-- the text of a number, with its sign -/
def textB (n : Int) : ByteArray := ⟨(Lib.itoa n).toArray⟩
theorem textB_nat (n : Nat) : textB (n : Int) = numB n := by
  unfold textB Lib.itoa numB; rw [if_neg (by omega), Int.toNat_natCast]
theorem textB_neg {n : Nat} (h : 0 < n) : textB (-(n : Int)) = (⟨#[45]⟩ : ByteArray) ++ numB n := by
  rw [← bytes_self ((⟨#[45]⟩ : ByteArray) ++ numB n), bytes_append]
  unfold textB Lib.itoa numB
  rw [if_pos (by omega), Int.natAbs_neg, Int.natAbs_natCast]
  rfl
set_option maxHeartbeats 1600000 in
theorem l1Num_any (x : Int) (hx : -999999 ≤ x ∧ x ≤ 999999) (w : World) : Calls Tryd.prog 44 #[.int .i64 x] w fun e w' => e = .returned (.string (textB x)) ∧ Drawn0 w w' := by
  by_cases h : 0 ≤ x
  · obtain ⟨n, rfl⟩ := Int.eq_ofNat_of_zero_le h
    rw [textB_nat]
    exact l1Num_nat n (by omega) w
  · obtain ⟨n, hn⟩ := Int.eq_ofNat_of_zero_le (show 0 ≤ -x by omega)
    obtain rfl : x = -(n : Int) := by omega
    have c0 : decide (-(n : Int) < 0) = true := decide_eq_true (by omega)
    have c00 : decide (0 < (n : Int)) = true := decide_eq_true (by omega)
    have c01 : decide (0 < n) = true := decide_eq_true (by omega)
    have e1 : wrap64 (- -(n : Int)) = (n : Int) := by unfold wrap64; omega
    have e2 : wrap64 (n : Int) = (n : Int) := by unfold wrap64; omega
    have s0 := numB_size n
    have s1 : ((9223372036854775807 : Nat) < 1 + (numB n).size) = False := eq_false (by omega)
    have ih := l1Num_nat n (by omega)
    have et := textB_neg (n := n) (by omega)
    go_enter Tryd.func44, Tryd.ntmps44
    go_wp2_with (first | (go_at_call 44; refine (ih _).mono ?_; rintro e w' ⟨rfl, ⟨nd, rfl⟩⟩) | fail)
    go_ret
    exact ⟨by rw [et]; rfl, ⟨_, rfl⟩⟩
theorem l1In_any (x a b : Int) (w : World) : Calls Tryd.prog 43 #[.int .i64 x, .int .i64 a, .int .i64 b] w fun e w' => e = .returned (.bool (inB a b x)) ∧ Drawn0 w w' := by
  cases c1 : decide (a ≤ x) <;> cases c2 : decide (x ≤ b)
  all_goals
    have e : inB a b x = (decide (a ≤ x) && decide (x ≤ b)) := rfl
    rw [c1, c2] at e
    go_enter Tryd.func43, Tryd.ntmps43
    go_wp2_with (go_quiet (fail))
    repeat (go_quiet (fail))
    go_ret
    exact ⟨by rw [e]; rfl, Drawn0.refl _⟩
theorem within_any (x a b : Int) (w : World) : Calls Tryd.prog 45 #[.int .i64 x, .int .i64 a, .int .i64 b] w fun e w' => e = .returned (.bool (inB a b x)) ∧ Drawn0 w w' := by
  cases c1 : decide (a ≤ x) <;> cases c2 : decide (x ≤ b)
  all_goals
    have e : inB a b x = (decide (a ≤ x) && decide (x ≤ b)) := rfl
    rw [c1, c2] at e
    go_enter Tryd.func45, Tryd.ntmps45
    go_wp2_with (go_quiet (fail))
    repeat (go_quiet (fail))
    go_ret
    exact ⟨by rw [e]; rfl, Drawn0.refl _⟩
def fmtB (x : Int) : ByteArray := bif inB (-999999) 999999 x then textB x else ⟨#[]⟩
theorem in_bounds {x : Int} (h : inB (-999999) 999999 x = true) : -999999 ≤ x ∧ x ≤ 999999 := by
  simpa [inB] using h
set_option maxHeartbeats 1600000 in
theorem specFormatInt_any (x : Int) (w : World) : Calls Tryd.prog 12 #[.int .i64 x] w fun e w' => e = .returned (.tuple #[.string (fmtB x), .bool (inB (-999999) 999999 x)]) ∧ Drawn0 w w' := by
  have hi := l1In_any x (-999999) 999999
  cases g : inB (-999999) 999999 x
  · have ef : fmtB x = ⟨#[]⟩ := by unfold fmtB; rw [g]; rfl
    rw [g] at hi
    go_enter Tryd.func12, Tryd.ntmps12
    go_wp2_with (first | (go_at_call 43; refine (hi _).mono ?_; rintro e w' ⟨rfl, ⟨nd, rfl⟩⟩) | fail)
    go_ret2
    exact ⟨by rw [ef]; rfl, ⟨_, rfl⟩⟩
  · have ef : fmtB x = textB x := by unfold fmtB; rw [g]; rfl
    have hn := l1Num_any x (in_bounds g)
    rw [g] at hi
    go_enter Tryd.func12, Tryd.ntmps12
    go_wp2_with (first | (go_at_call 43; refine (hi _).mono ?_; rintro e w' ⟨rfl, ⟨nd, rfl⟩⟩) | (go_at_call 44; refine (hn _).mono ?_; rintro e w' ⟨rfl, ⟨nd2, rfl⟩⟩) | fail)
    go_ret2
    exact ⟨by rw [ef]; rfl, ⟨_, rfl⟩⟩
open Go.Sort in
theorem grow_below (w : World) (k : Nat) (os : Array Obj) : Below w.heap.size w (grow (w.drewN k) os) :=
  ⟨rfl, rfl, rfl, by show w.heap.size ≤ (w.heap ++ os).size; rw [Array.size_append]; omega, fun i hi => by show (w.heap ++ os)[i]? = w.heap[i]?; exact Array.getElem?_append_left hi⟩
def Tab (w : World) : Prop := Lib.TabIs Tryd.prog w "internal/strconv.uint64pow10" .u64 Lib.pow10Tab
theorem tab_keep {w w' : World} (h : Tab w) (hb : Below w.heap.size w w') : Tab w' := by
  unfold Tab Lib.TabIs at *
  obtain ⟨g, hg⟩ : ∃ g, (Tryd.prog).globalNamed "internal/strconv.uint64pow10" = some g := Option.isSome_iff_exists.1 (by kernel_rfl)
  have hl : g < w.heap.size := by
    have := Lib.TabIs.cell h hg 0 (by decide)
    exact World.block_lt_of_cell? _ _ this
  rw [← h]
  unfold World.var?
  simp only [hg, Option.bind_some]
  rw [hb.block g hl]
set_option maxHeartbeats 1600000 in
theorem implFormatInt_any (x : Int) (w : World) (ht : Tab w) : Calls Tryd.prog 13 #[.int .i64 x] w fun e w' => e = .returned (.tuple #[.string (fmtB x), .bool (inB (-999999) 999999 x)]) ∧ Below w.heap.size w w' := by
  have hi := within_any x (-999999) 999999
  cases g : inB (-999999) 999999 x
  · have ef : fmtB x = ⟨#[]⟩ := by unfold fmtB; rw [g]; rfl
    rw [g] at hi
    clear ht
    go_enter Tryd.func13, Tryd.ntmps13
    go_wp2_with (first | (go_at_call 45; refine (hi _).mono ?_; rintro e w' ⟨rfl, ⟨nd, rfl⟩⟩) | fail)
    go_ret2
    exact ⟨by rw [ef]; rfl, Drawn0.below ⟨_, rfl⟩⟩
  · have ef : fmtB x = textB x := by unfold fmtB; rw [g]; rfl
    have hx := in_bounds g
    have hn : ∀ k, Calls Tryd.prog 46 #[.int .i64 x] (w.drewN k) fun e w' => e = .returned (.string (textB x)) ∧ Below w.heap.size w w' := fun k =>
      (Tryd.strconv_Itoa x (by omega) (by omega) (w.drewN k) (tab_keep ht (Drawn0.below ⟨k, rfl⟩))).mono fun e w' ⟨he, j, os, hw⟩ => ⟨he, by
        have b1 : Below w.heap.size w (w.drewN k) := Drawn0.below ⟨k, rfl⟩
        rw [hw]; exact b1.trans (grow_below (w.drewN k) j os)⟩
    rw [g] at hi
    clear ht hx
    go_enter Tryd.func13, Tryd.ntmps13
    go_wp2_with (first | (go_at_call 45; refine (hi _).mono ?_; rintro e w' ⟨rfl, ⟨nd, rfl⟩⟩) | (go_at_call 46; refine (hn _).mono ?_; rintro e w' ⟨rfl, hb⟩) | fail)
    go_ret2
    exact ⟨by rw [ef]; rfl, hb⟩
set_option maxHeartbeats 1600000 in
theorem lawFormatInt_any (x : Int) (w : World) (ht : Tab w) : Calls Tryd.prog 3 #[.int .i64 x] w fun e w' => e = .returned (.bool true) ∧ Below w.heap.size w w' := by
  have hs := specFormatInt_any x w
  have hi : ∀ k, Calls Tryd.prog 13 #[.int .i64 x] (w.drewN k) fun e w' => e = .returned (.tuple #[.string (fmtB x), .bool (inB (-999999) 999999 x)]) ∧ Below w.heap.size w w' := fun k =>
    (implFormatInt_any x (w.drewN k) (tab_keep ht (Drawn0.below ⟨k, rfl⟩))).mono fun e w' ⟨he, hb⟩ => ⟨he, by
      have b1 : Below w.heap.size w (w.drewN k) := Drawn0.below ⟨k, rfl⟩
      exact b1.trans hb⟩
  clear ht
  generalize fmtB x = s at hs hi
  generalize inB (-999999) 999999 x = o at hs hi
  go_enter Tryd.func3, Tryd.ntmps3
  go_wp2_with (first | (go_at_call 12; refine hs.mono ?_; rintro e w' ⟨rfl, ⟨nd, rfl⟩⟩) | (go_at_call 13; refine (hi _).mono ?_; rintro e w' ⟨rfl, hb⟩) | (go_quiet (fail)) | fail)
  go_ret
  exact ⟨rfl, hb⟩
end Go.Proofs.YtidnebhdjkdofaaDoor
