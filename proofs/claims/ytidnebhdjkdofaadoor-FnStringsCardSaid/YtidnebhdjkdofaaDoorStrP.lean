/- FnStrings (Door seat): the plain law. No statement of the seat is proved here. -/
import Derived.Test.YtidnebhdjkdofaaDoorParseW
import Derived.Test.YtidnebhdjkdofaaDoorVer
import Derived.Laws.BitsAllLaws
namespace Go.Proofs.YtidnebhdjkdofaaDoor
open Go.RowKit Go.Proofs.YtidnebhdjkdofaaDoorW.PrintWords Go.Proofs.YtidnebhdjkdofaaDoor.QStr
set_option linter.unusedVariables false
set_option linter.unusedSimpArgs false
/-- one step of the checksum, and all of it -/
def hs (h : Int) (b : UInt8) : Int := (41 * h + (b.toNat : Int) + 1) % 999979
def hashL (h : Int) : List UInt8 → Int
  | [] => h
  | b :: r => hashL (hs h b) r
theorem hs_range (h : Int) (b : UInt8) : 0 ≤ hs h b ∧ hs h b < 999979 := by unfold hs; omega
theorem hashL_range : ∀ (l : List UInt8) (h : Int), 0 ≤ h ∧ h < 999979 → 0 ≤ hashL h l ∧ hashL h l < 999979
  | [], h, hh => hh
  | b :: r, h, _ => hashL_range r _ (hs_range h b)
theorem hs_inj {h1 h2 : Int} {b : UInt8} (r1 : 0 ≤ h1 ∧ h1 < 999979) (r2 : 0 ≤ h2 ∧ h2 < 999979) (e : hs h1 b = hs h2 b) : h1 = h2 := by
  unfold hs at e; omega
theorem hs_byte {h : Int} {a b : UInt8} (e : hs h a = hs h b) : a = b := by
  have ha := a.toNat_lt
  have hb := b.toNat_lt
  unfold hs at e
  apply UInt8.toNat_inj.1
  omega
theorem hashL_inj : ∀ (l : List UInt8) (h1 h2 : Int), 0 ≤ h1 ∧ h1 < 999979 → 0 ≤ h2 ∧ h2 < 999979 → hashL h1 l = hashL h2 l → h1 = h2
  | [], _, _, _, _, e => e
  | b :: r, h1, h2, r1, r2, e => hs_inj r1 r2 (hashL_inj r _ _ (hs_range h1 b) (hs_range h2 b) e)
theorem hashL_diff (a b : UInt8) (l2 : List UInt8) : ∀ (l1 : List UInt8) (h : Int), 0 ≤ h ∧ h < 999979 → hashL h (l1 ++ a :: l2) = hashL h (l1 ++ b :: l2) → a = b
  | [], h, r, e => hs_byte (hashL_inj l2 _ _ (hs_range h a) (hs_range h b) e)
  | c :: l1, h, r, e => hashL_diff a b l2 l1 _ (hs_range h c) e
theorem hs_code {h : Int} (hh : 0 ≤ h ∧ h < 999979) (b : UInt8) : Int.tmod (wrap64 ((wrap64 ((wrap64 (41 * h)) + (wrap64 (b.toNat : Int)))) + 1)) 999979 = hs h b := by
  have hb := b.toNat_lt
  have e : wrap64 ((wrap64 ((wrap64 (41 * h)) + (wrap64 (b.toNat : Int)))) + 1) = 41 * h + (b.toNat : Int) + 1 := by unfold wrap64; omega
  rw [e, Int.tmod_eq_emod_of_nonneg (by omega)]; rfl
theorem sum_val (p : ByteArray) (hp : p.size ≤ 1048576) : ∀ (n k i : Nat) (h : Int), i + n = p.size → n < k → 0 ≤ h ∧ h < 999979 → spec_l1Sum.l0 k p h (i : Int) = some (hashL h (p.data.toList.drop i)) ∧ impl_Checksum.l0 k p h (p.size : Int) (i : Int) = some (hashL h (p.data.toList.drop i), true)
  | 0, k, i, h, hi, hk, hh => by
    obtain ⟨k, rfl⟩ : ∃ m, k = m + 1 := ⟨k - 1, by omega⟩
    rw [List.drop_eq_nil_of_le (by rw [bytes_len]; omega)]
    refine ⟨?_, ?_⟩
    · simp only [spec_l1Sum.l0]; rw [if_neg (by omega)]; rfl
    · simp only [impl_Checksum.l0]; rw [if_neg (by omega)]; rfl
  | n + 1, k, i, h, hi, hk, hh => by
    obtain ⟨k, rfl⟩ : ∃ m, k = m + 1 := ⟨k - 1, by omega⟩
    have hL : i < p.data.toList.length := by rw [bytes_len]; omega
    obtain ⟨a, b⟩ := sum_val p hp n k (i + 1) _ (by omega) (by omega) (hs_range h (p.data.toList[i]))
    rw [List.drop_eq_getElem_cons hL, hashL]
    refine ⟨?_, ?_⟩
    · simp only [spec_l1Sum.l0]; rw [if_pos (by omega), if_pos (by omega), wrapN (n := p.size) (by omega) (by omega), bt_list p i hL, hs_code hh]; exact a
    · simp only [impl_Checksum.l0]; rw [if_pos (by omega), if_pos (by omega), if_pos (by omega), wrapN (n := p.size) (by omega) (by omega), bt_list p i hL, hs_code hh]; exact b
/-- the checksum of a text -/
def sv (p : ByteArray) : Int := hashL 7 p.data.toList
theorem sv_range (p : ByteArray) : 0 ≤ sv p ∧ sv p < 999979 := hashL_range _ 7 (by omega)
theorem check_val (p : ByteArray) (hp : p.size ≤ 1048576) : ∃ k, impl_Checksum.f k p = some (bif decide (p.size ≤ 4000) then (sv p, true) else (0, false)) := by
  refine ⟨p.size + 1, ?_⟩
  have b := (sum_val p hp p.size (p.size + 1) 0 7 (by omega) (by omega) (by omega)).2
  rw [List.drop_zero] at b
  unfold impl_Checksum.f
  by_cases z : p.size ≤ 4000
  · rw [if_neg (by omega), decide_eq_true z]; exact b
  · rw [if_pos (by omega), decide_eq_false z]; rfl
theorem ev_one {α : Type} {g : Nat → Option α} {r1 r2 : α} (h1 : Ev g r1) (h2 : Ev g r2) : r1 = r2 := by
  obtain ⟨K1, a⟩ := h1
  obtain ⟨K2, b⟩ := h2
  have x := a (K1 + K2) (by omega)
  rw [b (K1 + K2) (by omega)] at x
  exact (Option.some.inj x).symm
theorem append_val (s : ByteArray) (hs : s.size ≤ 1048576) : ∃ k, spec_AppendChecksum.f k s = some ((appR s (sv s)).1, (appR s (sv s)).2) := by
  obtain ⟨v, v0, v1, ⟨k, hk⟩, ⟨k2, h2⟩⟩ := append_spec s hs
  obtain ⟨k3, h3⟩ := check_val s hs
  have e : appR s v = appR s (sv s) := by
    by_cases z : s.size ≤ 4000
    · have q := ev_one (Ev.of (fun k => impl_Checksum.mono s k) h2) (Ev.of (fun k => impl_Checksum.mono s k) h3)
      rw [decide_eq_true z] at q
      have : v = sv s := congrArg Prod.fst q
      rw [this]
    · unfold appR
      rw [decide_eq_false z]; rfl
  exact ⟨k, by rw [hk, e]⟩
theorem fstP_app {c : UInt8} : ∀ (l r : List UInt8), (∀ b ∈ l, b ≠ c) → fstP c (l ++ c :: r) = l
  | [], r, _ => by simp [fstP]
  | b :: l, r, h => by
    rw [List.cons_append, fstP, if_neg (h b (List.mem_cons_self ..)), fstP_app l r fun x hx => h x (List.mem_cons_of_mem _ hx)]
theorem fstP_all {c : UInt8} : ∀ (l : List UInt8), (∀ b ∈ l, b ≠ c) → fstP c l = l
  | [], _ => rfl
  | b :: l, h => by
    rw [fstP, if_neg (h b (List.mem_cons_self ..)), fstP_all l fun x hx => h x (List.mem_cons_of_mem _ hx)]
theorem itoa_no {v : Int} (h : 0 ≤ v) : ∀ b ∈ Lib.itoa v, b ≠ 35 := by
  obtain ⟨n, rfl⟩ := Int.eq_ofNat_of_zero_le h
  rw [Lib.itoa_nonneg]
  intro b hb
  obtain ⟨k, hk⟩ := List.mem_iff_getElem?.1 hb
  obtain ⟨d, hd⟩ := Lib.digit_of_decFrom _ 0 n (dec_digits n) k b hk
  obtain ⟨e1, _, _⟩ := Lib.digitVal_eq hd
  rintro rfl
  exact absurd e1 (by decide)
theorem itoa_inj {a b : Int} (ha : 0 ≤ a ∧ a < 999979) (hb : 0 ≤ b ∧ b < 999979) (e : Lib.itoa a = Lib.itoa b) : a = b := by
  have h1 := atoi_text a (by omega)
  have h2 := atoi_text b (by omega)
  rw [textB_list] at h1 h2
  rw [e, h2] at h1
  injection h1 with h; exact h.symm
/-- what is sealed -/
def sealL (t : List UInt8) : List UInt8 := t ++ 35 :: Lib.itoa (hashL 7 t)
theorem get_of {l : List UInt8} {k : Nat} (hk : k < l.length) {v : UInt8} (h : l[k]? = some v) : l[k]'hk = v := by
  rw [List.getElem?_eq_getElem hk] at h
  exact Option.some.inj h
/-- A CHANGED BYTE IS DETECTED. -/
theorem detect (X : List UInt8) (hX : ∀ b ∈ X, b ≠ 35) (k : Nat) (c : UInt8) (hk : k < (sealL X).length) (hc : (sealL X)[k]'hk ≠ c) : sealL (fstP 35 ((sealL X).set k c)) ≠ (sealL X).set k c := by
  intro E
  have r7 : ∀ l, 0 ≤ hashL 7 l ∧ hashL 7 l < 999979 := fun l => hashL_range l 7 (by omega)
  by_cases a : k < X.length
  · have hB : (sealL X).set k c = X.take k ++ c :: (X.drop (k + 1) ++ 35 :: Lib.itoa (hashL 7 X)) := by
      unfold sealL
      rw [List.set_append_left _ _ a, List.set_eq_take_append_cons_drop, if_pos a]
      simp
    have hk' : (sealL X)[k]'hk = X[k] := get_of hk (by
      unfold sealL
      rw [List.getElem?_append_left a, List.getElem?_eq_getElem a])
    rw [hk'] at hc
    have ht : ∀ b ∈ X.take k, b ≠ 35 := fun b hb => hX b (List.mem_of_mem_take hb)
    rw [hB] at E
    by_cases q : c = 35
    · subst q
      rw [fstP_app _ _ ht] at E
      unfold sealL at E
      have E2 := List.append_cancel_left E
      injection E2 with _ E3
      exact itoa_no (r7 (X.take k)).1 35 (by rw [E3]; simp) rfl
    · have hx : ∀ b ∈ X.take k ++ c :: X.drop (k + 1), b ≠ 35 := by
        intro b hb
        rcases List.mem_append.1 hb with h | h
        · exact ht b h
        · rcases List.mem_cons.1 h with rfl | h
          · exact q
          · exact hX b (List.mem_of_mem_drop h)
      have hs : X.take k ++ c :: (X.drop (k + 1) ++ 35 :: Lib.itoa (hashL 7 X)) = (X.take k ++ c :: X.drop (k + 1)) ++ 35 :: Lib.itoa (hashL 7 X) := by simp
      rw [hs, fstP_app _ _ hx] at E
      unfold sealL at E
      have E2 := List.append_cancel_left E
      injection E2 with _ E3
      have E4 := itoa_inj (r7 _) (r7 _) E3
      have hX2 : X = X.take k ++ X[k] :: X.drop (k + 1) := by rw [← List.drop_eq_getElem_cons a, List.take_append_drop]
      rw [hX2] at E4
      have E5 := hashL_diff c X[k] (X.drop (k + 1)) (X.take k) 7 (by omega) (by rw [← hX2]; rw [← hX2] at E4; exact E4)
      exact hc E5.symm
  · by_cases b : k = X.length
    · subst b
      have hB : (sealL X).set X.length c = X ++ c :: Lib.itoa (hashL 7 X) := by
        unfold sealL
        rw [List.set_append_right _ _ (Nat.le_refl _), Nat.sub_self, List.set_cons_zero]
      have hk' : (sealL X)[X.length]'hk = 35 := get_of hk (by
        unfold sealL
        rw [List.getElem?_append_right (Nat.le_refl _), Nat.sub_self]; rfl)
      rw [hk'] at hc
      have hx : ∀ y ∈ X ++ c :: Lib.itoa (hashL 7 X), y ≠ 35 := by
        intro y hy
        rcases List.mem_append.1 hy with h | h
        · exact hX y h
        · rcases List.mem_cons.1 h with rfl | h
          · exact fun e => hc e.symm
          · exact itoa_no (r7 X).1 y h
      rw [hB, fstP_all _ hx] at E
      have := congrArg List.length E
      unfold sealL at this
      simp at this
    · have hB : (sealL X).set k c = X ++ 35 :: (Lib.itoa (hashL 7 X)).set (k - X.length - 1) c := by
        unfold sealL
        rw [List.set_append_right _ _ (by omega)]
        obtain ⟨j, hj⟩ : ∃ j, k - X.length = j + 1 := ⟨k - X.length - 1, by omega⟩
        rw [hj, List.set_cons_succ, Nat.add_sub_cancel]
      have hl : k - X.length - 1 < (Lib.itoa (hashL 7 X)).length := by
        unfold sealL at hk
        simp only [List.length_append, List.length_cons] at hk
        omega
      have hk' : (sealL X)[k]'hk = (Lib.itoa (hashL 7 X))[k - X.length - 1] := get_of hk (by
        unfold sealL
        rw [List.getElem?_append_right (by omega), ← List.getElem?_eq_getElem hl]
        obtain ⟨j, hj⟩ : ∃ j, k - X.length = j + 1 := ⟨k - X.length - 1, by omega⟩
        rw [hj, List.getElem?_cons_succ, Nat.add_sub_cancel])
      rw [hk'] at hc
      rw [hB, fstP_app _ _ hX] at E
      unfold sealL at E
      have E2 := List.append_cancel_left E
      injection E2 with _ E3
      have E4 := congrArg (fun l => l[k - X.length - 1]?) E3
      rw [List.getElem?_eq_getElem hl, List.getElem?_set_self hl] at E4
      exact hc (Option.some.inj E4)
theorem seal_bytes (x : ByteArray) : (sumTx x (sv x)).data.toList = sealL x.data.toList := by
  unfold sumTx sealL sv
  rw [bytes_append, bytes_append, textB_list]
  simp
theorem xor_ne {a d : Nat} (hd : d ≠ 0) : a ^^^ d ≠ a := by
  intro h
  have := congrArg (a ^^^ ·) h
  simp only [Nat.xor_self, ← Nat.xor_assoc, Nat.zero_xor] at this
  exact hd this
theorem no_hash {x : ByteArray} (h : has x = false) : ∀ b ∈ x.data.toList, b ≠ 35 := by
  intro b hb e
  subst e
  unfold has at h
  rw [List.contains_iff_mem.2 hb] at h
  cases h
/-- y is what x is sealed to: it opens to x -/
theorem open_val {x : ByteArray} (h : has x = false) (hy : (sumTx x (sv x)).size ≤ 4000) : tOf (sumTx x (sv x)) = x ∧ verR (sumTx x (sv x)) (sv x) = (x, true) := by
  have e : tOf (sumTx x (sv x)) = x := by
    unfold tOf
    rw [seal_bytes]
    unfold sealL
    rw [fstP_app _ _ (no_hash h)]
    exact bytes_self x
  refine ⟨e, ?_⟩
  unfold verR
  rw [e, decide_eq_true ⟨rfl, hy⟩]; rfl
/-- .. and spoilt it does not open -/
theorem spoilt_val {x b : ByteArray} (h : has x = false) {k : Nat} {c : UInt8} (hk : k < (sealL x.data.toList).length) (hc : (sealL x.data.toList)[k]'hk ≠ c) (hb : b.data.toList = (sealL x.data.toList).set k c) : (verR b (sv (tOf b))).2 = false := by
  unfold verR
  rw [decide_eq_false]; · rfl
  rintro ⟨e, _⟩
  rw [seal_bytes, hb] at e
  refine detect x.data.toList (no_hash h) k c hk hc ?_
  have : (tOf b).data.toList = fstP 35 ((sealL x.data.toList).set k c) := by
    unfold tOf; rw [mkB_list, hb]
  rw [this] at e
  exact e
end Go.Proofs.YtidnebhdjkdofaaDoor
