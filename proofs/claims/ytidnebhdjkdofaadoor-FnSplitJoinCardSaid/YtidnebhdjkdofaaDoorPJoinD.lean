/- The plain law of JoinStrings (Door seat). No statement of the seat is proved here. -/
import Derived.Test.YtidnebhdjkdofaaDoorPEv
import Derived.Test.YtidnebhdjkdofaaDoorJoinD
import Derived.Test.YtidnebhdjkdofaaDoorCon
import Derived.Test.YtidnebhdjkdofaaDoorText
import Derived.Lib.IndexAny
import Derived.Test.YtidnebhdjkdofaaDoorQJn1
namespace Go.Proofs.YtidnebhdjkdofaaDoor.Jn
open Go.RowKit Go.Proofs.YtidnebhdjkdofaaDoor Go.Proofs.YtidnebhdjkdofaaDoorW.PrintWords Go.Proofs.YtidnebhdjkdofaaDoorW.PrintLast Go.Proofs.YtidnebhdjkdofaaDoor.QJn
set_option linter.unusedVariables false
set_option linter.unusedSimpArgs false
theorem bytes_len (b : ByteArray) : b.data.toList.length = b.size := Array.length_toList
theorem wrapN {i n : Nat} (h : i < n) (hn : n ≤ 4611686018427387904) : wrap64 ((i : Int) + 1) = ((i + 1 : Nat) : Int) := by
  unfold wrap64; omega
theorem rdS (l : List ByteArray) (i : Nat) : rdOf ByteArray.empty l (i : Int) = l.getD i ByteArray.empty := by simp [rdOf]
theorem dropS (l : List ByteArray) (i : Nat) (h : i < l.length) : l.drop i = l.getD i ByteArray.empty :: l.drop (i + 1) := by
  rw [List.drop_eq_getElem_cons h]; simp [List.getD_eq_getElem?_getD, List.getElem?_eq_getElem h]
/-- the separator's byte stands in a part -/
def hasB (c : UInt8) (p : ByteArray) : Bool := p.data.toList.contains c
theorem bt_list (p : ByteArray) (i : Nat) (h : i < p.data.toList.length) : bt p (i : Int) = ((p.data.toList[i]'h).toNat : Int) := by
  have hz : i < p.size := by rwa [bytes_len] at h
  unfold bt
  rw [Int.toNat_natCast, dif_pos hz]
  rfl
theorem stands_l0 (c : UInt8) (p : ByteArray) (hp : p.size ≤ 1048576) : ∀ (n k i : Nat), i + n = p.size → n < k → spec_l1Stands.l0 k p (c.toNat : Int) (i : Int) = some ((p.data.toList.drop i).contains c)
  | 0, k, i, hi, hk => by
    obtain ⟨k, rfl⟩ : ∃ m, k = m + 1 := ⟨k - 1, by omega⟩
    simp only [spec_l1Stands.l0]
    rw [if_neg (by omega), List.drop_eq_nil_of_le (by rw [bytes_len]; omega)]
    rfl
  | n + 1, k, i, hi, hk => by
    obtain ⟨k, rfl⟩ : ∃ m, k = m + 1 := ⟨k - 1, by omega⟩
    have hL : i < p.data.toList.length := by rw [bytes_len]; omega
    simp only [spec_l1Stands.l0]
    rw [if_pos (by omega), if_pos (by omega), bt_list p i hL, List.drop_eq_getElem_cons hL, List.contains_cons]
    by_cases q : p.data.toList[i] = c
    · rw [if_pos (by rw [q]), q]; simp
    · rw [if_neg (fun e => q (UInt8.toNat_inj.1 (by omega))), wrapN (n := p.size) (by omega) (by omega), stands_l0 c p hp n k (i + 1) (by omega) (by omega)]
      rw [show (c == p.data.toList[i]) = false by simpa using fun e => q e.symm, Bool.false_or]
def tot : List ByteArray → Nat
  | [] => 0
  | p :: r => p.size + tot r
theorem tot_cons (p : ByteArray) (r : List ByteArray) : tot (p :: r) = p.size + tot r := rfl
theorem size_append (a b : ByteArray) : (a ++ b).size = a.size + b.size := by simp
theorem joinGo_size (a : ByteArray) (ha : a.size = 1) : ∀ (r : List ByteArray) (acc : ByteArray), (joinGo a r acc).size = acc.size + r.length + tot r
  | [], acc => by simp [joinGo, tot]
  | p :: r, acc => by
    rw [joinGo, joinGo_size a ha r, size_append, size_append, ha, tot, List.length_cons]; omega
def okAll (c : UInt8) (r : List ByteArray) : Bool := r.all (fun p => !hasB c p)
def none0 : ByteArray × Bool := ((⟨#[]⟩ : ByteArray), false)
def fin (b : Bool) (x : ByteArray) : ByteArray × Bool := match b with
  | true => (x, true)
  | false => none0
theorem okAll_cons (c : UInt8) (p : ByteArray) (r : List ByteArray) : okAll c (p :: r) = (!hasB c p && okAll c r) := by simp [okAll]
theorem join_spec (c : UInt8) (l : List ByteArray) (hl : l.length ≤ 1048576) (hs : ∀ j, j < l.length → (l.getD j ByteArray.empty).size ≤ 1048576) : ∀ (n k i : Nat) (acc : ByteArray), i + n = l.length → 0 < i → n + 1048578 < k → acc.size ≤ 4000 →
    spec_JoinStrings.l0 k l ⟨#[c]⟩ acc (i : Int) = some (fin (okAll c (l.drop i) && decide ((joinGo ⟨#[c]⟩ (l.drop i) acc).size ≤ 4000)) (joinGo ⟨#[c]⟩ (l.drop i) acc))
  | 0, k, i, acc, hi, h0, hk, hA => by
    obtain ⟨k, rfl⟩ : ∃ m, k = m + 1 := ⟨k - 1, by omega⟩
    simp only [spec_JoinStrings.l0]
    rw [if_neg (by omega), List.drop_eq_nil_of_le (by omega)]
    simp [okAll, joinGo, hA, fin]
  | n + 1, k, i, acc, hi, h0, hk, hA => by
    obtain ⟨k, rfl⟩ : ∃ m, k = m + 1 := ⟨k - 1, by omega⟩
    have hz := hs i (by omega)
    have st : spec_l1Stands.f k (l.getD i ByteArray.empty) (bt ⟨#[c]⟩ 0) = some (hasB c (l.getD i ByteArray.empty)) := by
      unfold spec_l1Stands.f
      exact stands_l0 c _ hz _ k 0 (Nat.zero_add _) (by omega)
    have a1 : (⟨#[c]⟩ : ByteArray).size = 1 := rfl
    have S1 : ((acc ++ (⟨#[c]⟩ : ByteArray)) ++ l.getD i ByteArray.empty).size = acc.size + 1 + (l.getD i ByteArray.empty).size := by rw [size_append, size_append, a1]
    simp only [spec_JoinStrings.l0]
    rw [if_pos (by omega), if_pos (by omega), if_pos (by omega), rdS, st, dropS l i (by omega), okAll_cons, joinGo]
    simp only [Option.bind_some]
    have IH := fun z : acc.size + 1 + (l.getD i ByteArray.empty).size ≤ 4000 => join_spec c l hl hs n k (i + 1) ((acc ++ (⟨#[c]⟩ : ByteArray)) ++ l.getD i ByteArray.empty) (by omega) (by omega) (by omega) (by omega)
    have JS := joinGo_size ⟨#[c]⟩ a1 (l.drop (i + 1)) ((acc ++ (⟨#[c]⟩ : ByteArray)) ++ l.getD i ByteArray.empty)
    cases q : hasB c (l.getD i ByteArray.empty)
    · rw [if_neg (by simp), if_pos (by omega), if_pos (by omega), if_pos (by rw [size_append, a1]; omega)]
      by_cases z : acc.size + 1 + (l.getD i ByteArray.empty).size ≤ 4000
      · rw [if_neg (by omega), wrapN (n := l.length) (by omega) (by omega), IH z]
        simp
      · rw [if_pos (by omega), decide_eq_false (by omega), Bool.and_false]
        rfl
    · simp [none0, fin]
theorem contains_same (c : UInt8) (p : ByteArray) : xContains.f p ⟨#[c]⟩ = some (hasB c p) := by
  unfold xContains.f
  rw [if_pos (show (⟨#[c]⟩ : ByteArray).size = 1 from rfl)]
  simp only [List.headD_cons]
  rw [hasB, Lib.contains_iff_indexByte]
  rfl
theorem join_impl (c : UInt8) (l : List ByteArray) (hl : l.length ≤ 1048576) (hs : ∀ j, j < l.length → (l.getD j ByteArray.empty).size ≤ 1048576) (r : ByteArray) : ∀ (n k i long : Nat), i + n = l.length → n < k → long ≤ 1048576 → ((long + tot (l.drop i) ≤ 4000) → xJoin.f l ⟨#[c]⟩ = some r) →
    impl_JoinStrings.l0 k l ⟨#[c]⟩ (long : Int) l (l.length : Int) (i : Int) = some (fin (okAll c (l.drop i) && decide (long + tot (l.drop i) ≤ 4000)) r)
  | 0, k, i, long, hi, hk, hA, hr => by
    obtain ⟨k, rfl⟩ : ∃ m, k = m + 1 := ⟨k - 1, by omega⟩
    simp only [impl_JoinStrings.l0]
    rw [List.drop_eq_nil_of_le (by omega)] at hr ⊢
    rw [if_neg (by omega)]
    rw [show tot [] = 0 from rfl, Nat.add_zero] at hr ⊢
    rw [show okAll c [] = true from rfl, Bool.true_and]
    by_cases z : long ≤ 4000
    · rw [if_neg (by omega), decide_eq_true z, hr z]; rfl
    · rw [if_pos (by omega), decide_eq_false z]; rfl
  | n + 1, k, i, long, hi, hk, hA, hr => by
    obtain ⟨k, rfl⟩ : ∃ m, k = m + 1 := ⟨k - 1, by omega⟩
    have hz := hs i (by omega)
    rw [dropS l i (by omega)] at hr ⊢
    rw [okAll_cons]
    rw [tot_cons] at hr ⊢
    have hw : wrap64 ((long : Int) + ((l.getD i ByteArray.empty).size : Int)) = ((long + (l.getD i ByteArray.empty).size : Nat) : Int) := by unfold wrap64; omega
    simp only [impl_JoinStrings.l0]
    rw [if_pos (by omega), if_pos (by omega), if_pos (by omega), rdS, hw]
    by_cases z : long + (l.getD i ByteArray.empty).size ≤ 4000
    · rw [if_neg (by omega), contains_same]
      simp only [Option.bind_some]
      have IH := join_impl c l hl hs r n k (i + 1) (long + (l.getD i ByteArray.empty).size) (by omega) (by omega) (by omega) (fun h => hr (by omega))
      cases q : hasB c (l.getD i ByteArray.empty)
      · rw [if_neg (by simp), wrapN (n := l.length) (by omega) (by omega), IH]
        simp [Nat.add_assoc]
      · simp [none0, fin]
    · rw [if_pos (by omega), decide_eq_false (by omega), Bool.and_false]; rfl
theorem empty_append (p : ByteArray) : (⟨#[]⟩ : ByteArray) ++ p = p := by
  have : ((⟨#[]⟩ : ByteArray) ++ p).data.toList = p.data.toList := by rw [bytes_append]; rfl
  rw [← bytes_self ((⟨#[]⟩ : ByteArray) ++ p), this, bytes_self]
theorem join_both (l : List ByteArray) (a : ByteArray) (hl : l.length ≤ 1048576) (hs : ∀ j, j < l.length → (l.getD j ByteArray.empty).size ≤ 1048576) : ∃ s ok, Ev (fun k => spec_JoinStrings.f k l a) (s, ok) ∧ Ev (fun k => impl_JoinStrings.f k l a) (s, ok) ∧ ∀ c p r, a = ⟨#[c]⟩ → l = p :: r → (s, ok) = fin (okAll c (p :: r) && decide ((joinB ⟨#[c]⟩ (p :: r)).size ≤ 4000)) (joinB ⟨#[c]⟩ (p :: r)) := by
  have noS : Ev (fun k => spec_JoinStrings.j0 k l a true) none0 := Ev.step (f := fun _ => some none0) (fun k => by simp [spec_JoinStrings.j0, none0]) (Ev.now _)
  have noI : Ev (fun k => impl_JoinStrings.j0 k l a true) none0 := Ev.step (f := fun _ => some none0) (fun k => by simp [impl_JoinStrings.j0, none0]) (Ev.now _)
  by_cases ha : a.size = 1
  · by_cases z : l = []
    · subst z
      refine ⟨none0.1, none0.2, ?_, ?_, fun c p r _ h => by cases h⟩
      · unfold spec_JoinStrings.f
        exact ev_pos (by omega) noS
      · unfold impl_JoinStrings.f
        exact ev_pos rfl noI
    · obtain ⟨c, rfl⟩ : ∃ c, a = ⟨#[c]⟩ := by
        obtain ⟨⟨L⟩⟩ := a
        match L, ha with
        | [c], _ => exact ⟨c, rfl⟩
      obtain ⟨p, r, rfl⟩ : ∃ p r, l = p :: r := by
        cases l with
        | nil => exact absurd rfl z
        | cons p r => exact ⟨p, r, rfl⟩
      have hz := hs 0 (by simp)
      simp only [List.getD_cons_zero] at hz
      have a1 : (⟨#[c]⟩ : ByteArray).size = 1 := rfl
      have hJ : (joinB ⟨#[c]⟩ (p :: r)).size = p.size + r.length + tot r := joinGo_size _ a1 r p
      simp only [List.length_cons] at hl
      refine ⟨(fin (okAll c (p :: r) && decide ((joinB ⟨#[c]⟩ (p :: r)).size ≤ 4000)) (joinB ⟨#[c]⟩ (p :: r))).1, (fin (okAll c (p :: r) && decide ((joinB ⟨#[c]⟩ (p :: r)).size ≤ 4000)) (joinB ⟨#[c]⟩ (p :: r))).2, ?_, ?_, fun c2 p2 r2 e1 e2 => by cases e1; cases e2; rfl⟩
      · unfold spec_JoinStrings.f
        refine ev_pos (by omega) ?_
        refine Ev.step (f := fun k => spec_JoinStrings.l0 k (p :: r) ⟨#[c]⟩ ⟨#[]⟩ 0) (fun k => by simp [spec_JoinStrings.j0]; intro h; omega) ?_
        refine ev_at (r.length + 1048590) fun k hk => ?_
        obtain ⟨k, rfl⟩ : ∃ m, k = m + 1 := ⟨k - 1, by omega⟩
        have st : spec_l1Stands.f k p (bt ⟨#[c]⟩ 0) = some (hasB c p) := by
          unfold spec_l1Stands.f
          exact stands_l0 c _ hz _ k 0 (Nat.zero_add _) (by omega)
        simp only [spec_JoinStrings.l0]
        rw [if_pos (by simp only [List.length_cons]; omega), if_pos (by omega), if_pos (by omega), show rdOf ByteArray.empty (p :: r) 0 = p from rfl, st]
        simp only [Option.bind_some]
        cases q : hasB c p
        · rw [if_neg (by simp), if_neg (by omega), if_pos (by rw [show (⟨#[]⟩ : ByteArray).size = 0 from rfl]; omega), empty_append]
          by_cases y : p.size ≤ 4000
          · rw [if_neg (by omega), show wrap64 (0 + 1) = ((1 : Nat) : Int) from by unfold wrap64; omega]
            have := join_spec c (p :: r) (by simp only [List.length_cons]; omega) hs r.length k 1 p (by simp only [List.length_cons]; omega) (by omega) (by omega) y
            refine this.trans ?_
            rw [okAll_cons, q]
            rfl
          · rw [if_pos (by omega), decide_eq_false (by omega), Bool.and_false]; rfl
        · rw [okAll_cons, q]; rfl
      · unfold impl_JoinStrings.f
        refine ev_neg (by simp only [List.length_cons]; omega) ?_
        refine Ev.step (f := fun k => impl_JoinStrings.l0 k (p :: r) ⟨#[c]⟩ (wrap64 (((p :: r).length : Int) - 1)) (p :: r) ((p :: r).length : Int) 0) (fun k => by simp [impl_JoinStrings.j0, a1]) ?_
        rw [show wrap64 (((p :: r).length : Int) - 1) = ((r.length : Nat) : Int) by simp only [List.length_cons]; unfold wrap64; omega]
        refine ev_at (r.length + 2) fun k hk => ?_
        have := join_impl c (p :: r) (by simp only [List.length_cons]; omega) hs (joinB ⟨#[c]⟩ (p :: r)) (r.length + 1) k 0 r.length (by simp only [List.length_cons]; omega) (by omega) (by omega) (fun h => by
          rw [List.drop_zero, tot_cons] at h
          unfold xJoin.f
          rw [if_pos ⟨by simp only [List.length_cons]; omega, by omega⟩])
        refine this.trans ?_
        rw [List.drop_zero, tot_cons, show decide (r.length + (p.size + tot r) ≤ 4000) = decide ((joinB ⟨#[c]⟩ (p :: r)).size ≤ 4000) from decide_eq_decide.2 ⟨fun h => by omega, fun h => by omega⟩]
  · refine ⟨none0.1, none0.2, ?_, ?_, fun c p r h _ => absurd (by rw [h]; rfl) ha⟩
    · unfold spec_JoinStrings.f
      exact ev_neg (by omega) noS
    · unfold impl_JoinStrings.f
      by_cases z : (l.length : Int) = 0
      · exact ev_pos z noI
      · refine ev_neg z ?_
        rw [show ((a.size : Int) != 1) = true by simp; omega]
        exact noI
end Go.Proofs.YtidnebhdjkdofaaDoor.Jn
