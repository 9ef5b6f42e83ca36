/- ParseInt (Door seat): the plain law. No statement of the seat is proved here. -/
import Derived.Test.YtidnebhdjkdofaaDoorSplit
import Derived.Lib.AtoiAll
import Derived.Lib.Atoi
import Derived.Lib.ItoaMem
import Derived.Test.YtidnebhdjkdofaaDoorQStr2
namespace Go.Proofs.YtidnebhdjkdofaaDoor
open Go.RowKit Go.Proofs.YtidnebhdjkdofaaDoorW.PrintWords Go.Proofs.YtidnebhdjkdofaaDoor.QStr
set_option linter.unusedVariables false
set_option linter.unusedSimpArgs false
theorem decFrom_append : ∀ (l1 l2 : List UInt8) (acc : Nat), Lib.decFrom acc (l1 ++ l2) = (Lib.decFrom acc l1).bind fun a => Lib.decFrom a l2
  | [], l2, acc => rfl
  | b :: r, l2, acc => by
    simp only [List.cons_append, Lib.decFrom]
    cases Lib.digitVal b with
    | none => rfl
    | some d => exact decFrom_append r l2 _
theorem digit_ofNat {d : Nat} (h : d < 10) : Lib.digitVal (UInt8.ofNat (48 + d)) = some d := by
  obtain rfl | rfl | rfl | rfl | rfl | rfl | rfl | rfl | rfl | rfl : d = 0 ∨ d = 1 ∨ d = 2 ∨ d = 3 ∨ d = 4 ∨ d = 5 ∨ d = 6 ∨ d = 7 ∨ d = 8 ∨ d = 9 := by omega
  all_goals rfl
theorem dec_digits : ∀ n, Lib.decFrom 0 (Lib.decDigits n) = some n := by
  intro n
  induction n using Nat.strongRecOn with
  | _ n ih =>
    by_cases h : n < 10
    · rw [Lib.decDigits_one h]
      simp only [Lib.decFrom, digit_ofNat h, Option.some.injEq]
      omega
    · rw [Lib.decDigits, dif_neg h, decFrom_append, ih (n / 10) (by omega)]
      simp only [Option.bind_some, Lib.decFrom, digit_ofNat (show n % 10 < 10 by omega), Option.some.injEq]
      omega
theorem decFrom_mono : ∀ (l : List UInt8) (acc m : Nat), Lib.decFrom acc l = some m → acc ≤ m
  | [], acc, m, h => by simp only [Lib.decFrom, Option.some.injEq] at h; omega
  | b :: r, acc, m, h => by
    simp only [Lib.decFrom] at h
    cases e : Lib.digitVal b with
    | none => rw [e] at h; cases h
    | some d =>
      rw [e] at h
      have := decFrom_mono r _ m h
      omega
theorem parse_of_dec : ∀ (l : List UInt8) (acc m : Nat), Lib.decFrom acc l = some m → m < 1844674407370955162 → Lib.parseUint10 acc l = .ok m
  | [], acc, m, h, hm => by simp only [Lib.decFrom, Option.some.injEq] at h; rw [Lib.parseUint10, h]
  | b :: r, acc, m, h, hm => by
    simp only [Lib.decFrom] at h
    cases e : Lib.digitVal b with
    | none => rw [e] at h; cases h
    | some d =>
      rw [e] at h
      simp only at h
      have mo := decFrom_mono r _ m h
      obtain ⟨e1, e2, e3⟩ := Lib.digitVal_eq e
      subst e3
      rw [Lib.parseUint10, if_pos ⟨e1, e2⟩, if_neg (by omega), if_neg (by omega)]
      exact parse_of_dec r _ m h hm
theorem digits_len : ∀ (k n : Nat), n < 10 ^ (k + 1) → (Lib.decDigits n).length ≤ k + 1
  | 0, n, h => by rw [Lib.decDigits_one (by omega)]; simp
  | k + 1, n, h => by
    by_cases q : n < 10
    · rw [Lib.decDigits_one q]; simp
    · rw [Lib.decDigits, dif_neg q, List.length_append]
      have := digits_len k (n / 10) (by rw [Nat.pow_succ] at h; omega)
      simp only [List.length_cons, List.length_nil]
      omega
theorem digits_some (n : Nat) : ∃ c r, Lib.decDigits n = c :: r ∧ 48 ≤ c.toNat ∧ c.toNat ≤ 57 := by
  cases e : Lib.decDigits n with
  | nil =>
    exfalso
    by_cases q : n < 10
    · rw [Lib.decDigits_one q] at e; cases e
    · rw [Lib.decDigits, dif_neg q] at e; simp at e
  | cons c r =>
    obtain ⟨d, hd⟩ := Lib.digit_of_decFrom _ 0 n (dec_digits n) 0 c (by rw [e]; rfl)
    obtain ⟨e1, e2, _⟩ := Lib.digitVal_eq hd
    exact ⟨c, r, rfl, e1, e2⟩
theorem textB_list (v : Int) : (textB v).data.toList = Lib.itoa v := by simp [textB]
theorem atoi_text (v : Int) (h : -999999 ≤ v ∧ v ≤ 999999) : Lib.atoiAll (textB v).data.toList = .ok v := by
  rw [textB_list]
  by_cases g : 0 ≤ v
  · obtain ⟨n, rfl⟩ := Int.eq_ofNat_of_zero_le g
    obtain ⟨c, r, hc, h1, h2⟩ := digits_some n
    have e : Lib.parseMag (c :: r) = .ok n := by
      unfold Lib.parseMag
      rw [if_neg (by simp), ← hc]
      exact parse_of_dec _ _ _ (dec_digits n) (by omega)
    rw [Lib.itoa_nonneg, hc]
    simp only [Lib.atoiAll]
    rw [if_neg (show ¬ (c.toNat = 43 ∨ c.toNat = 45) by omega), e]
    dsimp only
    rw [if_neg (fun h => by omega), if_neg (fun h => by omega), if_neg (by omega)]
  · obtain ⟨n, hn⟩ := Int.eq_ofNat_of_zero_le (show 0 ≤ -v by omega)
    obtain rfl : v = -(n : Int) := by omega
    obtain ⟨c, r, hc, h1, h2⟩ := digits_some n
    have e : Lib.parseMag (Lib.decDigits n) = .ok n := by
      unfold Lib.parseMag
      rw [if_neg (by rw [hc]; simp)]
      exact parse_of_dec _ _ _ (dec_digits n) (by omega)
    rw [Lib.itoa_neg n (by omega)]
    simp only [Lib.atoiAll]
    have q : (45 : UInt8).toNat = 45 := rfl
    rw [if_pos (show (45 : UInt8).toNat = 43 ∨ (45 : UInt8).toNat = 45 from Or.inr rfl), e]
    dsimp only
    rw [if_neg (fun h => h.1 rfl), if_neg (fun h => by omega), if_pos q]
/-- the digits behind the sign -/
def strip (s : ByteArray) : ByteArray := if 1 < s.size ∧ s.data.toList.head? = some 45 then mkB (s.data.toList.drop 1) else s
def cmpR (s : ByteArray) (x : Int) : Int × Bool := if (textB x).data.toList = s.data.toList then (x, true) else (0, false)
def finR (s t : ByteArray) : Option Nat → Int × Bool
  | some m => cmpR s (if t.size < s.size then -(m : Int) else m)
  | none => (0, false)
/-- what the reference reads -/
def readR (s : ByteArray) : Int × Bool := if 1 ≤ (strip s).size ∧ (strip s).size ≤ 6 then finR s (strip s) (Lib.decFrom 0 (strip s).data.toList) else (0, false)
theorem cmp_eq (s : ByteArray) (x : Int) (h : -999999 ≤ x ∧ x ≤ 999999) : ((xL1Num.f x).bind fun t => if t.toList = s.toList then (some (x, true)) else some ((0 : Int), false)) = some (cmpR s x) := by
  unfold xL1Num.f cmpR
  rw [if_pos h]
  simp only [Option.bind_some]
  by_cases q : (textB x).data.toList = s.data.toList
  · have q' : textB x = s := by rw [← bytes_self (textB x), q, bytes_self]
    rw [if_pos ((tl_iff _ _).2 q'), if_pos q]
  · rw [if_neg (fun h => q (by rw [(tl_iff _ _).1 h])), if_neg q]
theorem wrap_small {x : Int} (h : 0 ≤ x) (h2 : x ≤ 100000000) : wrap64 x = x := by unfold wrap64; omega
theorem dig_step (acc b : Nat) (h : acc < 1000000) (h1 : 48 ≤ b) (h2 : b ≤ 57) : wrap64 (wrap64 (10 * (acc : Int)) + ((b : Int) - 48) % 256) = ((acc * 10 + (b - 48) : Nat) : Int) := by
  have e : ((b : Int) - 48) % 256 = (b : Int) - 48 := by omega
  rw [e, wrap_small (x := 10 * (acc : Int)) (by omega) (by omega), wrap_small (by omega) (by omega)]
  omega
theorem read_l0 (s t : ByteArray) (ht : t.size ≤ 6) : ∀ (n k i acc : Nat), i + n = t.size → n < k → acc < 10 ^ i → spec_l1Read.l0 k s t (acc : Int) (i : Int) = some (finR s t (Lib.decFrom acc (t.data.toList.drop i)))
  | 0, k, i, acc, hi, hk, ha => by
    obtain ⟨k, rfl⟩ : ∃ m, k = m + 1 := ⟨k - 1, by omega⟩
    have h6 : acc < 1000000 := Nat.lt_of_lt_of_le ha (Nat.pow_le_pow_right (n := 10) (by decide) (show i ≤ 6 by omega))
    simp only [spec_l1Read.l0]
    rw [if_neg (by omega), List.drop_eq_nil_of_le (by rw [bytes_len]; omega), show wrap64 (-(acc : Int)) = -(acc : Int) by unfold wrap64; omega]
    by_cases c : t.size < s.size
    · rw [if_pos (by omega), cmp_eq s _ (by omega)]
      simp only [Lib.decFrom, finR]
      rw [if_pos c]
    · rw [if_neg (by omega), cmp_eq s _ (by omega)]
      simp only [Lib.decFrom, finR]
      rw [if_neg c]
  | n + 1, k, i, acc, hi, hk, ha => by
    obtain ⟨k, rfl⟩ : ∃ m, k = m + 1 := ⟨k - 1, by omega⟩
    have hL : i < t.data.toList.length := by rw [bytes_len]; omega
    have h6 : acc < 1000000 := Nat.lt_of_lt_of_le ha (Nat.pow_le_pow_right (n := 10) (by decide) (show i ≤ 6 by omega))
    simp only [spec_l1Read.l0]
    rw [if_pos (by omega), if_pos (by omega), bt_list t i hL, List.drop_eq_getElem_cons hL, wrapN (n := t.size) (by omega) (by omega)]
    generalize t.data.toList[i] = b
    simp only [Lib.decFrom]
    by_cases c1 : b.toNat < 48
    · rw [if_pos (by omega), show Lib.digitVal b = none by unfold Lib.digitVal; rw [if_neg (by omega)]]; rfl
    · by_cases c2 : 57 < b.toNat
      · rw [if_neg (by omega), if_pos (by omega), show Lib.digitVal b = none by unfold Lib.digitVal; rw [if_neg (by omega)]]; rfl
      · rw [if_neg (by omega), if_neg (by omega), show Lib.digitVal b = some (b.toNat - 48) by unfold Lib.digitVal; rw [if_pos (by omega)]]
        rw [dig_step acc b.toNat h6 (by omega) (by omega)]
        exact read_l0 s t ht n k (i + 1) _ (by omega) (by omega) (by rw [Nat.pow_succ]; omega)
theorem read_j1 (s t : ByteArray) (k : Nat) (hk : 10 < k) : spec_l1Read.j1 k s t = some (if 1 ≤ t.size ∧ t.size ≤ 6 then finR s t (Lib.decFrom 0 t.data.toList) else (0, false)) := by
  obtain ⟨k, rfl⟩ : ∃ m, k = m + 1 := ⟨k - 1, by omega⟩
  simp only [spec_l1Read.j1, spec_l1In.f]
  by_cases c1 : 1 ≤ t.size
  · rw [if_pos (by omega)]
    simp only [Option.bind_some]
    by_cases c2 : t.size ≤ 6
    · rw [if_pos (decide_eq_true (by omega)), if_pos ⟨c1, c2⟩]
      have := read_l0 s t c2 t.size k 0 0 (by omega) (by omega) (by simp)
      rw [List.drop_zero] at this
      exact this
    · rw [if_neg (by simp; omega), if_neg (fun h => c2 h.2)]
  · rw [if_neg (by omega), if_neg (fun h => c1 h.1)]; rfl
theorem read_f (s : ByteArray) (hs : s.size ≤ 1048576) : spec_l1Read.f 20 s = some (readR s) := by
  unfold spec_l1Read.f readR
  by_cases c : 1 < s.size
  · have hL : 0 < s.data.toList.length := by rw [bytes_len]; omega
    have b0 := bt_list s 0 hL
    rw [show ((0 : Nat) : Int) = 0 from rfl] at b0
    have hd : s.data.toList.head? = some (s.data.toList[0]'hL) := by rw [List.head?_eq_getElem?, List.getElem?_eq_getElem hL]
    rw [if_pos (by omega), if_pos (by omega), b0]
    simp only [spec_l1Read.j0]
    by_cases q : s.data.toList[0]'hL = 45
    · rw [if_pos (by rw [q]; rfl), if_pos (by omega)]
      have e : strip s = s.extract 1 s.size := by
        unfold strip
        rw [if_pos ⟨c, by rw [hd, q]⟩, ext_mk, List.take_of_length_le (by rw [List.length_drop, bytes_len]; omega)]
      rw [← e]
      exact read_j1 s _ 19 (by omega)
    · have e : strip s = s := by
        unfold strip
        rw [if_neg (fun h => q (Option.some.inj (hd.symm.trans h.2)))]
      rw [if_neg (by simp only [beq_iff_eq]; intro h; exact q (UInt8.toNat_inj.1 (by show _ = 45; omega))), e]
      exact read_j1 s s 19 (by omega)
  · have e : strip s = s := by unfold strip; rw [if_neg (fun h => c h.1)]
    rw [if_neg (by omega), e]
    simp only [spec_l1Read.j0]
    rw [if_neg (by simp)]
    exact read_j1 s s 19 (by omega)
theorem parse_spec (s : ByteArray) (hs : s.size ≤ 1048576) : spec_ParseInt.f 20 s = some ((readR s).1, (readR s).2) := by
  unfold spec_ParseInt.f
  rw [read_f s hs]
  rfl
theorem readR_cases (s : ByteArray) : readR s = (0, false) ∨ ∃ v, readR s = (v, true) ∧ textB v = s ∧ -999999 ≤ v ∧ v ≤ 999999 := by
  unfold readR
  by_cases c : 1 ≤ (strip s).size ∧ (strip s).size ≤ 6
  · rw [if_pos c]
    cases e : Lib.decFrom 0 (strip s).data.toList with
    | none => left; rfl
    | some m =>
      have h1 := Lib.decFrom_lt _ 0 m e
      have h2 := Nat.pow_le_pow_right (n := 10) (by decide) (show (strip s).data.toList.length ≤ 6 by rw [bytes_len]; omega)
      have h3 : (10 : Nat) ^ 6 = 1000000 := by decide
      simp only [finR, cmpR]
      by_cases q : (textB (if (strip s).size < s.size then -(m : Int) else m)).data.toList = s.data.toList
      · right
        rw [if_pos q]
        refine ⟨_, rfl, by rw [← bytes_self (textB _), q, bytes_self], ?_, ?_⟩ <;> split <;> omega
      · left; rw [if_neg q]
  · left; rw [if_neg c]
theorem readR_text (v : Int) (h : -999999 ≤ v ∧ v ≤ 999999) : readR (textB v) = (v, true) := by
  by_cases g : 0 ≤ v
  · obtain ⟨n, rfl⟩ := Int.eq_ofNat_of_zero_le g
    obtain ⟨c, r, hc, h1, h2⟩ := digits_some n
    have hl := digits_len 5 n (by have h3 : (10 : Nat) ^ 6 = 1000000 := by decide
                                  omega)
    have hd := dec_digits n
    have tl := textB_list (n : Int)
    rw [Lib.itoa_nonneg] at tl
    have e : strip (textB (n : Int)) = textB (n : Int) := by
      unfold strip
      rw [if_neg]
      intro h
      rw [tl, hc] at h
      have := Option.some.inj h.2
      rw [this] at h1
      exact absurd h1 (by decide)
    have sz : (textB (n : Int)).size = (Lib.decDigits n).length := by rw [← bytes_len, tl]
    unfold readR
    rw [e, tl, hd, if_pos ⟨by rw [sz, hc]; simp, by omega⟩]
    simp only [finR, cmpR]
    rw [if_neg (show ¬ (textB (n : Int)).size < (textB (n : Int)).size by omega), if_pos rfl]
  · obtain ⟨n, hn⟩ := Int.eq_ofNat_of_zero_le (show 0 ≤ -v by omega)
    obtain rfl : v = -(n : Int) := by omega
    obtain ⟨c, r, hc, h1, h2⟩ := digits_some n
    have hl := digits_len 5 n (by have h3 : (10 : Nat) ^ 6 = 1000000 := by decide
                                  omega)
    have hd := dec_digits n
    have tl := textB_list (-(n : Int))
    rw [Lib.itoa_neg n (by omega)] at tl
    have sz : (textB (-(n : Int))).size = (Lib.decDigits n).length + 1 := by rw [← bytes_len, tl]; rfl
    have e : strip (textB (-(n : Int))) = mkB (Lib.decDigits n) := by
      unfold strip
      rw [if_pos ⟨by rw [sz, hc]; simp, by rw [tl]; rfl⟩, tl]
      rfl
    unfold readR
    rw [e, mkB_list, mkB_size, hd, if_pos ⟨by rw [hc]; simp, by omega⟩]
    simp only [finR, cmpR, mkB_size]
    rw [if_pos (show (Lib.decDigits n).length < (textB (-(n : Int))).size by omega), if_pos rfl]
theorem parse_cases (s : ByteArray) : (∃ v, Lib.atoiAll s.data.toList = .ok v ∧ -999999 ≤ v ∧ v ≤ 999999 ∧ textB v = s ∧ readR s = (v, true)) ∨
    (readR s = (0, false) ∧ ∀ v, Lib.atoiAll s.data.toList = .ok v → inB (-999999) 999999 v = false ∨ (inB (-999999) 999999 v = true ∧ textB v ≠ s)) := by
  rcases readR_cases s with h | ⟨v, h, e, b⟩
  · right
    refine ⟨h, fun v hv => ?_⟩
    cases q : inB (-999999) 999999 v
    · left; rfl
    · right
      refine ⟨rfl, fun e => ?_⟩
      have := readR_text v (in_bounds q)
      rw [e, h] at this
      cases this
  · left
    refine ⟨v, ?_, b.1, b.2, e, h⟩
    rw [← e]
    exact atoi_text v b
end Go.Proofs.YtidnebhdjkdofaaDoor
