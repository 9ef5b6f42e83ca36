/- The plain law of JoinStrings. No statement of the seat is proved here. -/
import Derived.Test.YtidnebhdjkdofaaPEv
import Derived.Test.YtidnebhdjkdofaaStr
import Derived.Lib.IndexAny
import Derived.Test.YtidnebhdjkdofaaQAll2
import Derived.Test.YtidnebhdjkdofaaQAll1
namespace Go.Proofs.Ytidnebhdjkdofaa
open Go.RowKit Go.Proofs.YtidnebhdjkdofaaW.PrintWords Go.Proofs.YtidnebhdjkdofaaW.PrintLast Go.Proofs.Ytidnebhdjkdofaa.QAll
set_option linter.unusedVariables false
set_option linter.unusedSimpArgs false
theorem wrapN {i n : Nat} (h : i < n) (hn : n ≤ 4611686018427387904) : wrap64 ((i : Int) + 1) = ((i + 1 : Nat) : Int) := by
  unfold wrap64; omega
theorem rdS (l : List ByteArray) (i : Nat) : rdOf ByteArray.empty l (i : Int) = l.getD i ByteArray.empty := by simp [rdOf]
theorem dropS (l : List ByteArray) (i : Nat) (h : i < l.length) : l.drop i = l.getD i ByteArray.empty :: l.drop (i + 1) := by
  rw [List.drop_eq_getElem_cons h]; simp [List.getD_eq_getElem?_getD, List.getElem?_eq_getElem h]
def BIG : Nat := 9223372036854775807
theorem sz_l0 (l : List ByteArray) (hl : l.length ≤ 1048576) (hs : ∀ s ∈ l, s.size ≤ 9223372036854775807) : ∀ (n k i : Nat) (left : Int), i + n = l.length → n < k → 0 ≤ left ∧ left ≤ 1048576 → ∃ v, laws_szStringS.l0 k l left (i : Int) = some v ∧ (0 ≤ v → ∀ j, i ≤ j → j < l.length → (l.getD j ByteArray.empty).size ≤ 1048576)
  | 0, k, i, left, hi, hk, hb => by
    obtain ⟨k, rfl⟩ : ∃ m, k = m + 1 := ⟨k - 1, by omega⟩
    refine ⟨left, ?_, fun _ j h1 h2 => by omega⟩
    simp only [laws_szStringS.l0]
    rw [if_neg (by omega)]
  | n + 1, k, i, left, hi, hk, hb => by
    obtain ⟨k, rfl⟩ : ∃ m, k = m + 1 := ⟨k - 1, by omega⟩
    have hz : (l.getD i ByteArray.empty).size ≤ 9223372036854775807 := hs _ (by
      rw [List.getD_eq_getElem?_getD, List.getElem?_eq_getElem (show i < l.length by omega)]; simp)
    have hw : wrap64 (left - ((l.getD i ByteArray.empty).size : Int)) = left - ((l.getD i ByteArray.empty).size : Int) := by unfold wrap64; omega
    simp only [laws_szStringS.l0]
    rw [if_pos (by omega), if_pos (by omega), rdS, hw]
    by_cases c : left - ((l.getD i ByteArray.empty).size : Int) < 0
    · exact ⟨-1, by rw [if_pos c], fun h => by omega⟩
    · rw [if_neg c, wrapN (n := l.length) (by omega) (by omega)]
      obtain ⟨v, e, h⟩ := sz_l0 l hl hs n k (i + 1) (left - ((l.getD i ByteArray.empty).size : Int)) (by omega) (by omega) ⟨by omega, by omega⟩
      refine ⟨v, e, fun hv j h1 h2 => ?_⟩
      by_cases q : j = i
      · subst q; omega
      · exact h hv j (by omega) h2
theorem sz_all (l : List ByteArray) (hl : l.length ≤ 9223372036854775807) (hs : ∀ s ∈ l, s.size ≤ 9223372036854775807) : ∃ v, Ev (fun k => laws_szStringS.f k l 1048576) v ∧ (0 ≤ v → l.length ≤ 1048576 ∧ ∀ j, j < l.length → (l.getD j ByteArray.empty).size ≤ 1048576) := by
  have hw : wrap64 ((1048576 : Int) - (l.length : Int)) = 1048576 - (l.length : Int) := by unfold wrap64; omega
  unfold laws_szStringS.f
  rw [hw]
  by_cases c : (1048576 : Int) - (l.length : Int) < 0
  · exact ⟨-1, ev_pos c (Ev.now _), fun h => by omega⟩
  · obtain ⟨v, e, h⟩ := sz_l0 l (by omega) hs l.length (l.length + 1) 0 (1048576 - (l.length : Int)) (by omega) (by omega) ⟨by omega, by omega⟩
    exact ⟨v, ev_neg c (Ev.of (fun k => laws_szStringS.mono_l k _ _ _) e), fun hv => ⟨by omega, fun j hj => h hv j (by omega) hj⟩⟩
theorem toS_l0 (l : List ByteArray) (hl : l.length ≤ 1048576) : ∀ (d k i : Nat) (m : List ByteArray), i + d = l.length → d < k → m.length = l.length → (∀ j, j < i → m[j]? = l[j]?) → laws_toStringS.l0 k l m (i : Int) = some l
  | 0, k, i, m, h, hk, hm, he => by
    obtain ⟨k, rfl⟩ : ∃ m, k = m + 1 := ⟨k - 1, by omega⟩
    simp only [laws_toStringS.l0]
    rw [if_neg (by omega)]
    congr 1
    apply List.ext_getElem?
    intro j
    by_cases c : j < i
    · exact he j c
    · rw [List.getElem?_eq_none (by omega), List.getElem?_eq_none (by omega)]
  | d + 1, k, i, m, h, hk, hm, he => by
    obtain ⟨k, rfl⟩ : ∃ m, k = m + 1 := ⟨k - 1, by omega⟩
    simp only [laws_toStringS.l0]
    rw [if_pos (by omega), if_pos (by omega), if_pos (by omega), wrapN (n := l.length) (by omega) (by omega)]
    refine toS_l0 l hl d k (i + 1) _ (by omega) (by omega) (by simpa using hm) (fun j hj => ?_)
    by_cases q : j = i
    · subst q
      simp [rdOf, List.getD_eq_getElem?_getD, List.getElem?_set, show j < m.length by omega, List.getElem?_eq_getElem (show j < l.length by omega)]
    · rw [Int.toNat_natCast, List.getElem?_set_ne (by omega)]
      exact he j (by omega)
theorem toS (l : List ByteArray) (hl : l.length ≤ 1048576) : Ev (fun k => laws_toStringS.f k l) l :=
  ev_at (l.length + 1) fun k hk => by
    unfold laws_toStringS.f
    rw [if_pos (by omega), if_pos (by omega), Int.toNat_natCast]
    exact toS_l0 l hl l.length k 0 _ (by omega) (by omega) (by simp) (fun j hj => absurd hj (Nat.not_lt_zero j))
theorem eqS_l0 (l : List ByteArray) (hl : l.length ≤ 1048576) : ∀ (d k i : Nat), i + d = l.length → d < k → laws_eqStringS.l0 k l l (i : Int) = some true
  | 0, k, i, h, hk => by
    obtain ⟨k, rfl⟩ : ∃ m, k = m + 1 := ⟨k - 1, by omega⟩
    simp only [laws_eqStringS.l0]
    rw [if_neg (by omega)]
  | d + 1, k, i, h, hk => by
    obtain ⟨k, rfl⟩ : ∃ m, k = m + 1 := ⟨k - 1, by omega⟩
    simp only [laws_eqStringS.l0]
    rw [if_pos (by omega), if_pos (by omega), if_pos (by omega), if_pos trivial, wrapN (n := l.length) (by omega) (by omega)]
    exact eqS_l0 l hl d k (i + 1) (by omega) (by omega)
theorem eqS_same (l : List ByteArray) (hl : l.length ≤ 1048576) : Ev (fun k => laws_eqStringS.f k l l) true :=
  ev_at (l.length + 1) fun k hk => by
    unfold laws_eqStringS.f
    rw [if_pos rfl]
    exact eqS_l0 l hl l.length k 0 (by omega) (by omega)
/-- the separator's byte stands in a part -/
def hasB (c : UInt8) (p : ByteArray) : Bool := p.data.toList.contains c
theorem bt_list (p : ByteArray) (i : Nat) (h : i < p.data.toList.length) : bt p (i : Int) = ((p.data.toList[i]'h).toNat : Int) := by
  have hz : i < p.size := by rwa [bytes_len] at h
  unfold bt
  rw [Int.toNat_natCast, dif_pos hz]
  rfl
theorem stands_l0 (c : UInt8) (p : ByteArray) (hp : p.size ≤ 1048576) : ∀ (n k i : Nat), i + n = p.size → n < k → spec_l1Stands.l0 k p (c.toNat : Int) (i : Int) = some ((p.data.toList.drop i).contains c)
  | 0, k, i, hi, hk => by
    obtain ⟨k, rfl⟩ : ∃ m, k = m + 1 := ⟨k - 1, by omega⟩
    simp only [spec_l1Stands.l0]
    rw [if_neg (by omega), List.drop_eq_nil_of_le (by rw [bytes_len]; omega)]
    rfl
  | n + 1, k, i, hi, hk => by
    obtain ⟨k, rfl⟩ : ∃ m, k = m + 1 := ⟨k - 1, by omega⟩
    have hL : i < p.data.toList.length := by rw [bytes_len]; omega
    simp only [spec_l1Stands.l0]
    rw [if_pos (by omega), if_pos (by omega), bt_list p i hL, List.drop_eq_getElem_cons hL, List.contains_cons]
    by_cases q : p.data.toList[i] = c
    · rw [if_pos (by rw [q]), q]; simp
    · rw [if_neg (fun e => q (UInt8.toNat_inj.1 (by omega))), wrapN (n := p.size) (by omega) (by omega), stands_l0 c p hp n k (i + 1) (by omega) (by omega)]
      rw [show (c == p.data.toList[i]) = false by simpa using fun e => q e.symm, Bool.false_or]
def tot : List ByteArray → Nat
  | [] => 0
  | p :: r => p.size + tot r
theorem tot_cons (p : ByteArray) (r : List ByteArray) : tot (p :: r) = p.size + tot r := rfl
theorem size_append (a b : ByteArray) : (a ++ b).size = a.size + b.size := by simp
theorem joinGo_size (a : ByteArray) (ha : a.size = 1) : ∀ (r : List ByteArray) (acc : ByteArray), (joinGo a r acc).size = acc.size + r.length + tot r
  | [], acc => by simp [joinGo, tot]
  | p :: r, acc => by
    rw [joinGo, joinGo_size a ha r, size_append, size_append, ha, tot, List.length_cons]; omega
def okAll (c : UInt8) (r : List ByteArray) : Bool := r.all (fun p => !hasB c p)
def none0 : ByteArray × Bool := ((⟨#[]⟩ : ByteArray), false)
def fin (b : Bool) (x : ByteArray) : ByteArray × Bool := match b with
  | true => (x, true)
  | false => none0
theorem okAll_cons (c : UInt8) (p : ByteArray) (r : List ByteArray) : okAll c (p :: r) = (!hasB c p && okAll c r) := by simp [okAll]
theorem join_spec (c : UInt8) (l : List ByteArray) (hl : l.length ≤ 1048576) (hs : ∀ j, j < l.length → (l.getD j ByteArray.empty).size ≤ 1048576) : ∀ (n k i : Nat) (acc : ByteArray), i + n = l.length → 0 < i → n + 1048578 < k → acc.size ≤ 4000 →
    spec_JoinStrings.l0 k l ⟨#[c]⟩ acc (i : Int) = some (fin (okAll c (l.drop i) && decide ((joinGo ⟨#[c]⟩ (l.drop i) acc).size ≤ 4000)) (joinGo ⟨#[c]⟩ (l.drop i) acc))
  | 0, k, i, acc, hi, h0, hk, hA => by
    obtain ⟨k, rfl⟩ : ∃ m, k = m + 1 := ⟨k - 1, by omega⟩
    simp only [spec_JoinStrings.l0]
    rw [if_neg (by omega), List.drop_eq_nil_of_le (by omega)]
    simp [okAll, joinGo, hA, fin]
  | n + 1, k, i, acc, hi, h0, hk, hA => by
    obtain ⟨k, rfl⟩ : ∃ m, k = m + 1 := ⟨k - 1, by omega⟩
    have hz := hs i (by omega)
    have st : spec_l1Stands.f k (l.getD i ByteArray.empty) (bt ⟨#[c]⟩ 0) = some (hasB c (l.getD i ByteArray.empty)) := by
      unfold spec_l1Stands.f
      exact stands_l0 c _ hz _ k 0 (Nat.zero_add _) (by omega)
    have a1 : (⟨#[c]⟩ : ByteArray).size = 1 := rfl
    have S1 : ((acc ++ (⟨#[c]⟩ : ByteArray)) ++ l.getD i ByteArray.empty).size = acc.size + 1 + (l.getD i ByteArray.empty).size := by rw [size_append, size_append, a1]
    simp only [spec_JoinStrings.l0]
    rw [if_pos (by omega), if_pos (by omega), if_pos (by omega), rdS, st, dropS l i (by omega), okAll_cons, joinGo]
    simp only [Option.bind_some]
    have IH := fun z : acc.size + 1 + (l.getD i ByteArray.empty).size ≤ 4000 => join_spec c l hl hs n k (i + 1) ((acc ++ (⟨#[c]⟩ : ByteArray)) ++ l.getD i ByteArray.empty) (by omega) (by omega) (by omega) (by omega)
    have JS := joinGo_size ⟨#[c]⟩ a1 (l.drop (i + 1)) ((acc ++ (⟨#[c]⟩ : ByteArray)) ++ l.getD i ByteArray.empty)
    cases q : hasB c (l.getD i ByteArray.empty)
    · rw [if_neg (by simp), if_pos (by omega), if_pos (by omega), if_pos (by rw [size_append, a1]; omega)]
      by_cases z : acc.size + 1 + (l.getD i ByteArray.empty).size ≤ 4000
      · rw [if_neg (by omega), wrapN (n := l.length) (by omega) (by omega), IH z]
        simp
      · rw [if_pos (by omega), decide_eq_false (by omega), Bool.and_false]
        rfl
    · simp [none0, fin]
theorem contains_same (c : UInt8) (p : ByteArray) : xContains.f p ⟨#[c]⟩ = some (hasB c p) := by
  unfold xContains.f
  rw [if_pos (show (⟨#[c]⟩ : ByteArray).size = 1 from rfl)]
  simp only [List.headD_cons]
  rw [hasB, Lib.contains_iff_indexByte]
  rfl
theorem join_impl (c : UInt8) (l : List ByteArray) (hl : l.length ≤ 1048576) (hs : ∀ j, j < l.length → (l.getD j ByteArray.empty).size ≤ 1048576) (r : ByteArray) : ∀ (n k i long : Nat), i + n = l.length → n < k → long ≤ 1048576 → ((long + tot (l.drop i) ≤ 4000) → xJoin.f l ⟨#[c]⟩ = some r) →
    impl_JoinStrings.l0 k l ⟨#[c]⟩ (long : Int) l (l.length : Int) (i : Int) = some (fin (okAll c (l.drop i) && decide (long + tot (l.drop i) ≤ 4000)) r)
  | 0, k, i, long, hi, hk, hA, hr => by
    obtain ⟨k, rfl⟩ : ∃ m, k = m + 1 := ⟨k - 1, by omega⟩
    simp only [impl_JoinStrings.l0]
    rw [List.drop_eq_nil_of_le (by omega)] at hr ⊢
    rw [if_neg (by omega)]
    rw [show tot [] = 0 from rfl, Nat.add_zero] at hr ⊢
    rw [show okAll c [] = true from rfl, Bool.true_and]
    by_cases z : long ≤ 4000
    · rw [if_neg (by omega), decide_eq_true z, hr z]; rfl
    · rw [if_pos (by omega), decide_eq_false z]; rfl
  | n + 1, k, i, long, hi, hk, hA, hr => by
    obtain ⟨k, rfl⟩ : ∃ m, k = m + 1 := ⟨k - 1, by omega⟩
    have hz := hs i (by omega)
    rw [dropS l i (by omega)] at hr ⊢
    rw [okAll_cons]
    rw [tot_cons] at hr ⊢
    have hw : wrap64 ((long : Int) + ((l.getD i ByteArray.empty).size : Int)) = ((long + (l.getD i ByteArray.empty).size : Nat) : Int) := by unfold wrap64; omega
    simp only [impl_JoinStrings.l0]
    rw [if_pos (by omega), if_pos (by omega), if_pos (by omega), rdS, hw]
    by_cases z : long + (l.getD i ByteArray.empty).size ≤ 4000
    · rw [if_neg (by omega), contains_same]
      simp only [Option.bind_some]
      have IH := join_impl c l hl hs r n k (i + 1) (long + (l.getD i ByteArray.empty).size) (by omega) (by omega) (by omega) (fun h => hr (by omega))
      cases q : hasB c (l.getD i ByteArray.empty)
      · rw [if_neg (by simp), wrapN (n := l.length) (by omega) (by omega), IH]
        simp [Nat.add_assoc]
      · simp [none0, fin]
    · rw [if_pos (by omega), decide_eq_false (by omega), Bool.and_false]; rfl
theorem empty_append (p : ByteArray) : (⟨#[]⟩ : ByteArray) ++ p = p := by
  have : ((⟨#[]⟩ : ByteArray) ++ p).data.toList = p.data.toList := by rw [bytes_append]; rfl
  rw [← bytes_self ((⟨#[]⟩ : ByteArray) ++ p), this, bytes_self]
theorem join_both (l : List ByteArray) (a : ByteArray) (hl : l.length ≤ 1048576) (hs : ∀ j, j < l.length → (l.getD j ByteArray.empty).size ≤ 1048576) : ∃ s ok, Ev (fun k => spec_JoinStrings.f k l a) (s, ok) ∧ Ev (fun k => impl_JoinStrings.f k l a) (s, ok) := by
  have noS : Ev (fun k => spec_JoinStrings.j0 k l a true) none0 := Ev.step (f := fun _ => some none0) (fun k => by simp [spec_JoinStrings.j0, none0]) (Ev.now _)
  have noI : Ev (fun k => impl_JoinStrings.j0 k l a true) none0 := Ev.step (f := fun _ => some none0) (fun k => by simp [impl_JoinStrings.j0, none0]) (Ev.now _)
  by_cases ha : a.size = 1
  · by_cases z : l = []
    · subst z
      refine ⟨none0.1, none0.2, ?_, ?_⟩
      · unfold spec_JoinStrings.f
        exact ev_pos (by omega) noS
      · unfold impl_JoinStrings.f
        exact ev_pos rfl noI
    · obtain ⟨c, rfl⟩ : ∃ c, a = ⟨#[c]⟩ := by
        obtain ⟨⟨L⟩⟩ := a
        match L, ha with
        | [c], _ => exact ⟨c, rfl⟩
      obtain ⟨p, r, rfl⟩ : ∃ p r, l = p :: r := by
        cases l with
        | nil => exact absurd rfl z
        | cons p r => exact ⟨p, r, rfl⟩
      have hz := hs 0 (by simp)
      simp only [List.getD_cons_zero] at hz
      have a1 : (⟨#[c]⟩ : ByteArray).size = 1 := rfl
      have hJ : (joinB ⟨#[c]⟩ (p :: r)).size = p.size + r.length + tot r := joinGo_size _ a1 r p
      simp only [List.length_cons] at hl
      refine ⟨(fin (okAll c (p :: r) && decide ((joinB ⟨#[c]⟩ (p :: r)).size ≤ 4000)) (joinB ⟨#[c]⟩ (p :: r))).1, (fin (okAll c (p :: r) && decide ((joinB ⟨#[c]⟩ (p :: r)).size ≤ 4000)) (joinB ⟨#[c]⟩ (p :: r))).2, ?_, ?_⟩
      · unfold spec_JoinStrings.f
        refine ev_pos (by omega) ?_
        refine Ev.step (f := fun k => spec_JoinStrings.l0 k (p :: r) ⟨#[c]⟩ ⟨#[]⟩ 0) (fun k => by simp [spec_JoinStrings.j0]; intro h; omega) ?_
        refine ev_at (r.length + 1048590) fun k hk => ?_
        obtain ⟨k, rfl⟩ : ∃ m, k = m + 1 := ⟨k - 1, by omega⟩
        have st : spec_l1Stands.f k p (bt ⟨#[c]⟩ 0) = some (hasB c p) := by
          unfold spec_l1Stands.f
          exact stands_l0 c _ hz _ k 0 (Nat.zero_add _) (by omega)
        simp only [spec_JoinStrings.l0]
        rw [if_pos (by simp only [List.length_cons]; omega), if_pos (by omega), if_pos (by omega), show rdOf ByteArray.empty (p :: r) 0 = p from rfl, st]
        simp only [Option.bind_some]
        cases q : hasB c p
        · rw [if_neg (by simp), if_neg (by omega), if_pos (by rw [show (⟨#[]⟩ : ByteArray).size = 0 from rfl]; omega), empty_append]
          by_cases y : p.size ≤ 4000
          · rw [if_neg (by omega), show wrap64 (0 + 1) = ((1 : Nat) : Int) from by unfold wrap64; omega]
            have := join_spec c (p :: r) (by simp only [List.length_cons]; omega) hs r.length k 1 p (by simp only [List.length_cons]; omega) (by omega) (by omega) y
            refine this.trans ?_
            rw [okAll_cons, q]
            rfl
          · rw [if_pos (by omega), decide_eq_false (by omega), Bool.and_false]; rfl
        · rw [okAll_cons, q]; rfl
      · unfold impl_JoinStrings.f
        refine ev_neg (by simp only [List.length_cons]; omega) ?_
        refine Ev.step (f := fun k => impl_JoinStrings.l0 k (p :: r) ⟨#[c]⟩ (wrap64 (((p :: r).length : Int) - 1)) (p :: r) ((p :: r).length : Int) 0) (fun k => by simp [impl_JoinStrings.j0, a1]) ?_
        rw [show wrap64 (((p :: r).length : Int) - 1) = ((r.length : Nat) : Int) by simp only [List.length_cons]; unfold wrap64; omega]
        refine ev_at (r.length + 2) fun k hk => ?_
        have := join_impl c (p :: r) (by simp only [List.length_cons]; omega) hs (joinB ⟨#[c]⟩ (p :: r)) (r.length + 1) k 0 r.length (by simp only [List.length_cons]; omega) (by omega) (by omega) (fun h => by
          rw [List.drop_zero, tot_cons] at h
          unfold xJoin.f
          rw [if_pos ⟨by simp only [List.length_cons]; omega, by omega⟩])
        refine this.trans ?_
        rw [List.drop_zero, tot_cons, show decide (r.length + (p.size + tot r) ≤ 4000) = decide ((joinB ⟨#[c]⟩ (p :: r)).size ≤ 4000) from decide_eq_decide.2 ⟨fun h => by omega, fun h => by omega⟩]
  · refine ⟨none0.1, none0.2, ?_, ?_⟩
    · unfold spec_JoinStrings.f
      exact ev_neg (by omega) noS
    · unfold impl_JoinStrings.f
      by_cases z : (l.length : Int) = 0
      · exact ev_pos z noI
      · refine ev_neg z ?_
        rw [show ((a.size : Int) != 1) = true by simp; omega]
        exact noI
theorem joinStrings_law (l : List ByteArray) (a : ByteArray) (hl : l.length ≤ maxLen) (hs : ∀ s ∈ l, s.size ≤ maxLen) : ∃ k, laws_FnExactJoinStrings.f k l a = some true := by
  apply Ev.rounds
  unfold maxLen at hl hs
  unfold laws_FnExactJoinStrings.f
  by_cases q : (a.size : Int) > 1048576
  · exact ev_pos q (Ev.now _)
  · refine ev_neg q ?_
    obtain ⟨v, hv, hb⟩ := sz_all l (by omega) (fun s h => by have := hs s h; omega)
    refine Ev.bind hv ?_
    by_cases n : v < 0
    · exact ev_pos n (Ev.now _)
    · refine ev_neg n ?_
      obtain ⟨b1, b2⟩ := hb (by omega)
      obtain ⟨s, ok, h1, h2⟩ := join_both l a b1 b2
      have ti := toS l b1
      refine Ev.bind ti ?_
      refine Ev.bind h1 ?_
      refine Ev.bind ti ?_
      refine Ev.bind h2 ?_
      refine ev_pos rfl ?_
      simp only [bne_self_eq_false]
      refine Ev.step (f := fun k => _) (fun k => by simp only [laws_FnExactJoinStrings.j0]; rfl) ?_
      simp only [Bool.false_eq_true, if_false]
      refine Ev.bind ti ?_
      refine Ev.bind (eqS_same l b1) ?_
      exact ev_pos rfl (Ev.now _)
end Go.Proofs.Ytidnebhdjkdofaa
