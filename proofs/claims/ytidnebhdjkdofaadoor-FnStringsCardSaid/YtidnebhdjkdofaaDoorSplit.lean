/- Parts of a text (Door seat): the plain law. No statement of the seat is proved here. -/
import Derived.Test.YtidnebhdjkdofaaDoorApp
import Derived.Lib.Split
import Derived.Test.YtidnebhdjkdofaaDoorQStr1
namespace Go.Proofs.YtidnebhdjkdofaaDoor
open Go.RowKit Go.Proofs.YtidnebhdjkdofaaDoorW.PrintWords Go.Proofs.YtidnebhdjkdofaaDoor.QStr
set_option linter.unusedVariables false
set_option linter.unusedSimpArgs false
def mkB (l : List UInt8) : ByteArray := ⟨l.toArray⟩
theorem mkB_list (l : List UInt8) : (mkB l).data.toList = l := by simp [mkB]
theorem mkB_size (l : List UInt8) : (mkB l).size = l.length := by rw [← bytes_len, mkB_list]
theorem tl_iff (a b : ByteArray) : a.toList = b.toList ↔ a = b := ⟨fun h => by
  rw [ByteArray.toList_eq, ByteArray.toList_eq] at h
  rw [← bytes_self a, h, bytes_self], fun h => by rw [h]⟩
/-- the parts, with what the first begins with -/
def spA (c : UInt8) : List UInt8 → List UInt8 → List (List UInt8)
  | acc, [] => [acc]
  | acc, b :: r => if b = c then acc :: spA c [] r else spA c (acc ++ [b]) r
theorem ext_mk (p : ByteArray) (a b : Nat) : p.extract a b = mkB ((p.data.toList.drop a).take (b - a)) := by
  rw [← bytes_self (p.extract a b), Lib.extract_data]; rfl
theorem split_l0 (c : UInt8) (p : ByteArray) (hp : p.size ≤ 1048576) : ∀ (n k i fr : Nat) (out : List ByteArray), i + n = p.size → n < k → fr ≤ i → out.length ≤ i →
    spec_l1Split.l0 k p (c.toNat : Int) out (fr : Int) (i : Int) = some (out ++ (spA c ((p.data.toList.drop fr).take (i - fr)) (p.data.toList.drop i)).map mkB)
  | 0, k, i, fr, out, hi, hk, hf, ho => by
    obtain ⟨k, rfl⟩ : ∃ m, k = m + 1 := ⟨k - 1, by omega⟩
    obtain rfl : i = p.size := by omega
    simp only [spec_l1Split.l0]
    rw [if_neg (by omega), if_pos (by omega), if_pos (by omega), if_pos (by omega), Int.toNat_natCast, ext_mk, show p.data.toList.drop p.size = [] from List.drop_eq_nil_of_le (by rw [bytes_len]; omega)]
    rfl
  | n + 1, k, i, fr, out, hi, hk, hf, ho => by
    obtain ⟨k, rfl⟩ : ∃ m, k = m + 1 := ⟨k - 1, by omega⟩
    have hL : i < p.data.toList.length := by rw [bytes_len]; omega
    simp only [spec_l1Split.l0]
    rw [if_pos (by omega), if_pos (by omega), bt_list p i hL, List.drop_eq_getElem_cons hL, wrapN (n := p.size) (by omega) (by omega)]
    by_cases q : p.data.toList[i] = c
    · rw [if_pos (by rw [q]), if_pos (by omega), if_pos (by omega), if_pos (by omega), if_pos (by omega), split_l0 c p hp n k (i + 1) (i + 1) _ (by omega) (by omega) (by omega) (by simp; omega)]
      rw [spA, if_pos q, Int.toNat_natCast, Int.toNat_natCast, ext_mk, Nat.sub_self, List.take_zero]
      simp
    · rw [if_neg (fun e => q (UInt8.toNat_inj.1 (by omega))), split_l0 c p hp n k (i + 1) fr _ (by omega) (by omega) (by omega) (by omega)]
      rw [spA, if_neg q]
      have e : (p.data.toList.drop fr).take (i + 1 - fr) = (p.data.toList.drop fr).take (i - fr) ++ [p.data.toList[i]] := by
        rw [show i + 1 - fr = (i - fr) + 1 by omega, List.take_add_one, List.getElem?_drop, show fr + (i - fr) = i by omega, List.getElem?_eq_getElem hL]
        rfl
      rw [e]
theorem split_f (c : UInt8) (p : ByteArray) (hp : p.size ≤ 1048576) (k : Nat) (hk : p.size < k) : spec_l1Split.f k p (c.toNat : Int) = some ((spA c [] p.data.toList).map mkB) := by
  have := split_l0 c p hp p.size k 0 0 [] (by omega) hk (by omega) (by simp)
  unfold spec_l1Split.f
  simpa using this
/-- the first part -/
def fstP (c : UInt8) : List UInt8 → List UInt8
  | [] => []
  | b :: r => if b = c then [] else b :: fstP c r
theorem spA_head (c : UInt8) : ∀ (l acc : List UInt8), ∃ t, spA c acc l = (acc ++ fstP c l) :: t
  | [], acc => ⟨[], by simp [spA, fstP]⟩
  | b :: r, acc => by
    by_cases q : b = c
    · exact ⟨spA c [] r, by rw [spA, if_pos q, fstP, if_pos q, List.append_nil]⟩
    · obtain ⟨t, h⟩ := spA_head c r (acc ++ [b])
      exact ⟨t, by rw [spA, if_neg q, h, fstP, if_neg q]; simp⟩
theorem fstP_no (c : UInt8) : ∀ l, (fstP c l).contains c = false
  | [] => rfl
  | b :: r => by
    by_cases q : b = c
    · rw [fstP, if_pos q]; rfl
    · rw [fstP, if_neg q, List.contains_cons, fstP_no c r, show (c == b) = false by simpa using fun e => q e.symm]; rfl
theorem fstP_len (c : UInt8) : ∀ l, (fstP c l).length ≤ l.length
  | [] => Nat.le_refl _
  | b :: r => by
    have := fstP_len c r
    rw [fstP]; split <;> simp <;> omega
theorem cut_fstP (c : UInt8) : ∀ l, (Lib.cut l [c]).1 = fstP c l
  | [] => rfl
  | b :: r => by
    have ih := cut_fstP c r
    have ge := Lib.index_ge r [c]
    have e : Lib.index (b :: r) [c] = if c = b then 0 else if Lib.index r [c] = -1 then -1 else Lib.index r [c] + 1 := by
      simp [Lib.index, List.isPrefixOf]
    unfold Lib.cut at ih ⊢
    by_cases q : b = c
    · subst q
      rw [if_pos rfl] at e
      rw [e]; simp [fstP]
    · rw [if_neg (fun h => q h.symm)] at e
      rw [fstP, if_neg q]
      by_cases m : Lib.index r [c] = -1
      · rw [if_pos m] at e
        rw [e, if_neg (by omega)]
        rw [m, if_neg (by omega)] at ih
        rw [← ih]
      · rw [if_neg m] at e
        rw [e, if_pos (by omega)]
        rw [if_pos (by omega)] at ih
        have e2 : (Lib.index r [c] + 1).toNat = (Lib.index r [c]).toNat + 1 := by omega
        rw [e2, ← ih]
        rfl
end Go.Proofs.YtidnebhdjkdofaaDoor
