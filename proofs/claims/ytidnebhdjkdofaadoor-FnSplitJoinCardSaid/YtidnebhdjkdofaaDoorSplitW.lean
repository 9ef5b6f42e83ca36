/- SplitString (Door seat): the plain law and the walks. No statement of the seat is proved here. -/
import Derived.Test.YtidnebhdjkdofaaDoorVer
import Derived.Test.YtidnebhdjkdofaaDoorShelfD
import Derived.Lib.SplitLaws
import Derived.Test.YtidnebhdjkdofaaDoorQStr1
import Derived.Test.YtidnebhdjkdofaaDoorQStr3
import Derived.Test.YtidnebhdjkdofaaDoorWLast
namespace Go.Proofs.YtidnebhdjkdofaaDoor
open Go.RowKit Go.Proofs.YtidnebhdjkdofaaDoorW.PrintWords Go.Proofs.YtidnebhdjkdofaaDoorW.PrintLast Go.Proofs.YtidnebhdjkdofaaDoor.QStr
set_option linter.unusedVariables false
set_option linter.unusedSimpArgs false
theorem spA_index (c : UInt8) : ∀ (l acc : List UInt8), (Lib.index l [c] = -1 → spA c acc l = [acc ++ l]) ∧ ∀ i : Nat, Lib.index l [c] = i → spA c acc l = (acc ++ l.take i) :: spA c [] (l.drop (i + 1))
  | [], acc => ⟨fun _ => by simp [spA], fun i h => by simp [Lib.index] at h⟩
  | b :: r, acc => by
    have ge := Lib.index_ge r [c]
    have e : Lib.index (b :: r) [c] = if c = b then 0 else if Lib.index r [c] = -1 then -1 else Lib.index r [c] + 1 := by
      simp [Lib.index, List.isPrefixOf]
    obtain ⟨h1, h2⟩ := spA_index c r (acc ++ [b])
    by_cases q : b = c
    · subst q
      rw [if_pos rfl] at e
      refine ⟨fun h => by omega, fun i h => ?_⟩
      obtain rfl : i = 0 := by omega
      rw [spA, if_pos rfl]; simp
    · rw [if_neg (fun h => q h.symm)] at e
      rw [spA, if_neg q]
      by_cases m : Lib.index r [c] = -1
      · rw [if_pos m] at e
        exact ⟨fun _ => by rw [h1 m]; simp, fun i h => by omega⟩
      · rw [if_neg m] at e
        refine ⟨fun h => by omega, fun i h => ?_⟩
        obtain ⟨j, rfl⟩ : ∃ j, i = j + 1 := ⟨i - 1, by omega⟩
        rw [h2 j (by omega)]; simp
def parts (c : UInt8) (s : ByteArray) : List ByteArray := (spA c [] s.data.toList).map mkB
theorem one_list (c : UInt8) : (⟨#[c]⟩ : ByteArray).data.toList = [c] := rfl
theorem split_parts (c : UInt8) : ∀ (k : Nat) (s : ByteArray), Lib.countB s ⟨#[c]⟩ = k → Lib.splitB ⟨#[c]⟩ 0 k s = parts c s
  | 0, s, hk => by
    rw [Lib.splitB_zero]
    rcases Lib.indexB_cases s ⟨#[c]⟩ with h | ⟨i, h, _⟩
    · rw [parts, (spA_index c s.data.toList []).1 h]; simp [mkB]
    · have := Lib.countB_hit s ⟨#[c]⟩ i (Nat.le_refl 1) h
      omega
  | k + 1, s, hk => by
    rcases Lib.indexB_cases s ⟨#[c]⟩ with h | ⟨i, h, _⟩
    · rw [Lib.countB_miss s _ h] at hk; omega
    · have hh := Lib.countB_hit s ⟨#[c]⟩ i (Nat.le_refl 1) h
      rw [Lib.splitB_hit _ _ _ _ i h, split_parts c k _ (by omega)]
      rw [parts, parts, (spA_index c s.data.toList []).2 i h, List.map_cons, List.nil_append]
      have o : (⟨#[c]⟩ : ByteArray).size = 1 := rfl
      congr 1
      · rw [ext_mk]; simp
      · rw [Lib.extract_data, List.take_of_length_le (by rw [List.length_drop, bytes_len]; exact Nat.le_refl _)]
        rfl
theorem parts_len (c : UInt8) (s : ByteArray) : (parts c s).length = Lib.countB s ⟨#[c]⟩ + 1 := by
  rw [← split_parts c _ s rfl]
  exact Lib.splitB_all ⟨#[c]⟩ (Nat.le_refl 1) 0 _ s rfl
theorem parts_le (c : UInt8) (s : ByteArray) : (parts c s).length ≤ s.size + 1 := by
  rw [parts_len]
  have := Lib.countB_le ⟨#[c]⟩ (Nat.le_refl 1) s.size s (Nat.le_refl _)
  omega
/-- the parts, and whether they were asked for well -/
def spR (s sep : ByteArray) : List ByteArray × Bool := bif decide (sep.size = 1) && decide (s.size ≤ 4000) then (parts (sep.data.toList.headD 0) s, true) else ([], false)
theorem spR_len (s sep : ByteArray) : (spR s sep).1.length ≤ 4001 := by
  unfold spR
  cases h : decide (sep.size = 1) && decide (s.size ≤ 4000)
  · simp
  · simp only [Bool.and_eq_true, decide_eq_true_eq] at h
    simp only [cond_true]
    have := parts_le (sep.data.toList.headD 0) s
    omega
theorem split_spec (s sep : ByteArray) (hs : s.size ≤ 1048576) : ∃ k, spec_SplitString.f k s sep = some ((spR s sep).1, (spR s sep).2) := by
  refine ⟨s.size + 1, ?_⟩
  unfold spec_SplitString.f spR
  by_cases a : sep.size = 1
  · obtain ⟨c, rfl⟩ := Lib.one_byte sep a
    rw [if_pos (by omega), decide_eq_true a]
    by_cases z : s.size ≤ 4000
    · rw [if_neg (by omega), if_pos (by omega), decide_eq_true z]
      have b0 : bt ⟨#[c]⟩ 0 = (c.toNat : Int) := bt_list ⟨#[c]⟩ 0 (by simp)
      rw [b0, split_f c s hs (s.size + 1) (by omega)]
      rfl
    · rw [if_pos (by omega), decide_eq_false z]; rfl
  · rw [if_neg (by omega), decide_eq_false a]; rfl
set_option maxHeartbeats 1600000 in
theorem implSplit_any (s sep : ByteArray) (w : World) (hm : ML w) : Calls Tryd.prog 15 #[.string s, .string sep] w fun e w' => ∃ v, e = .returned (.tuple #[v, .bool (spR s sep).2]) ∧ Kd.R Kd.string 9 w' w.heap.size (fun _ => True) v (spR s sep).1 ∧ Below w.heap.size w w' := by
  unfold spR
  by_cases z : s.size ≤ 4000
  · have d1 : decide ((4000 : Int) < (s.size : Int)) = false := decide_eq_false (by omega)
    have d2 : decide (4000 < s.size) = false := decide_eq_false (by omega)
    rw [decide_eq_true z]
    by_cases a : sep.size = 1
    · obtain ⟨c, rfl⟩ := Lib.one_byte sep a
      have o : (⟨#[c]⟩ : ByteArray).size = 1 := rfl
      rw [decide_eq_true a]
      simp only [Bool.and_self, cond_true, one_list, List.headD_cons]
      obtain ⟨m, hm⟩ := hm
      have hS := Tryd.strings_Split s ⟨#[c]⟩ m w (by omega) hm (Nat.le_refl 1)
      rw [split_parts c _ s rfl, ← parts_len c s] at hS
      have hl := parts_le c s
      clear hm
      generalize parts c s = L at hS hl
      go_enter Tryd.func15, Tryd.ntmps15
      go_wp2_with (first | (go_at_call 48; refine hS.mono ?_; rintro e w' ⟨rfl, rfl⟩) | (go_quiet (fail)) | fail)
      go_ret2
      refine ⟨_, rfl, ?_, below_alloc (Below.refl _ _) _⟩
      exact Kd.R_of_own (enc := Value.string) ⟨by simp [encs], Or.inr ⟨w.heap.size, L.length, (L.map Value.string).toArray, rfl, Nat.le_refl _, heap_alloc_new w _, Nat.le_refl _, by unfold maxLen; omega, by simp, by rw [Nat.mul_one, List.toList_toArray, List.take_of_length_le (by simp)]; rfl⟩⟩ (fun _ _ => trivial)
    · rw [decide_eq_false a]
      have d3 : decide ((sep.size : Int) = 1) = false := decide_eq_false (by omega)
      have d4 : ((sep.size : Int) != 1) = true := by simp; omega
      have d5 : (sep.size != 1) = true := by simp; omega
      have d6 : (sep.size == 1) = false := by simp; omega
      have d7 : ((sep.size : Int) == 1) = false := by simp; omega
      clear hm
      go_enter Tryd.func15, Tryd.ntmps15
      go_wp2_with (first | (go_quiet (fail)) | fail)
      go_ret2
      exact ⟨_, rfl, Kd.R_nil _ _ _ _ _, Below.refl _ _⟩
  · have d1 : decide ((4000 : Int) < (s.size : Int)) = true := decide_eq_true (by omega)
    have d2 : decide (4000 < s.size) = true := decide_eq_true (by omega)
    rw [decide_eq_false z, Bool.and_false]
    clear hm
    go_enter Tryd.func15, Tryd.ntmps15
    go_wp2_with (first | (go_quiet (fail)) | fail)
    go_ret2
    exact ⟨_, rfl, Kd.R_nil _ _ _ _ _, Below.refl _ _⟩
end Go.Proofs.YtidnebhdjkdofaaDoor
