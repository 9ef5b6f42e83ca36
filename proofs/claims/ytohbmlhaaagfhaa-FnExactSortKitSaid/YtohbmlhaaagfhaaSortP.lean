/- SortKit: the plain law. No statement of the seat is proved here. -/
import Derived.Test.YtohbmlhaaagfhaaBase
import Derived.Test.YtohbmlhaaagfhaaShelfS
import Derived.Sort.LotA
namespace Go.Proofs.Ytohbmlhaaagfhaa
open Go.RowKit
set_option linter.unusedVariables false
set_option linter.unusedSimpArgs false
abbrev F31 := Fin 31
def kl (k : Nat → F31) : List F31 := [k 0, k 1, k 2, k 3]
def is (m : Nat) (x : F31) : Bool := x.val == m
/-- what stands in the result when the places below i have been looked at for m -/
def Lm (k : Nat → F31) (m i : Nat) : List F31 := ((List.range (m - 1)).flatMap fun t => (kl k).filter (is (t + 1))) ++ ((kl k).take i).filter (is m)
theorem Lm_start (k : Nat → F31) : Lm k 1 0 = [] := rfl
theorem Lm_next (k : Nat → F31) {m : Nat} (h : 1 ≤ m) : Lm k (m + 1) 0 = Lm k m 4 := by
  obtain ⟨n, rfl⟩ : ∃ n, m = n + 1 := ⟨m - 1, by omega⟩
  unfold Lm
  simp only [Nat.add_sub_cancel, List.range_succ, List.flatMap_append, List.take_zero, List.filter_nil, List.append_nil]
  simp [kl]
theorem take_one (k : Nat → F31) {i : Nat} (h : i < 4) : (kl k).take (i + 1) = (kl k).take i ++ [k i] := by
  obtain rfl | rfl | rfl | rfl : i = 0 ∨ i = 1 ∨ i = 2 ∨ i = 3 := by omega
  all_goals rfl
theorem Lm_hit (k : Nat → F31) {m i : Nat} (h : i < 4) (e : (k i).val = m) : Lm k m (i + 1) = Lm k m i ++ [k i] := by
  unfold Lm
  rw [take_one k h, List.filter_append, ← List.append_assoc]
  congr 1
  simp [is, e]
theorem Lm_miss (k : Nat → F31) {m i : Nat} (h : i < 4) (e : ¬ (k i).val = m) : Lm k m (i + 1) = Lm k m i := by
  unfold Lm
  rw [take_one k h, List.filter_append]
  simp [is, e]
theorem split_perm (P Q R : F31 → Bool) (h : ∀ x, P x = (Q x || R x)) (hd : ∀ x, (Q x && R x) = false) : ∀ l : List F31, (l.filter P).Perm (l.filter Q ++ l.filter R)
  | [] => List.Perm.nil
  | x :: l => by
    have ih := split_perm P Q R h hd l
    have hx := h x
    have hy := hd x
    cases q : Q x <;> cases r : R x <;> rw [q, r] at hx hy
    · rw [List.filter_cons_of_neg (by rw [hx]; simp), List.filter_cons_of_neg (by rw [q]; simp), List.filter_cons_of_neg (by rw [r]; simp)]; exact ih
    · rw [List.filter_cons_of_pos (by rw [hx]; rfl), List.filter_cons_of_neg (by rw [q]; simp), List.filter_cons_of_pos r]
      exact (List.Perm.cons x ih).trans List.perm_middle.symm
    · rw [List.filter_cons_of_pos (by rw [hx]; rfl), List.filter_cons_of_pos q, List.filter_cons_of_neg (by rw [r]; simp)]
      exact List.Perm.cons x ih
    · cases hy
def rest (m : Nat) (x : F31) : Bool := x.val == 0 || decide (m ≤ x.val)
theorem Lm_perm (k : Nat → F31) : ∀ m, (Lm k (m + 1) 0 ++ (kl k).filter (rest (m + 1))).Perm (kl k)
  | 0 => by
    rw [Lm_start, List.nil_append, List.filter_eq_self.2 (fun x _ => by unfold rest; simp; omega)]
  | m + 1 => by
    have ih := Lm_perm k m
    have s := split_perm (rest (m + 1)) (is (m + 1)) (rest (m + 2)) (fun x => by
      unfold rest is
      rw [Bool.eq_iff_iff]
      simp
      omega) (fun x => by
      unfold rest is
      rw [Bool.eq_false_iff]
      simp
      omega) (kl k)
    have e : Lm k (m + 1 + 1) 0 = Lm k (m + 1) 0 ++ (kl k).filter (is (m + 1)) := by
      rw [Lm_next k (by omega)]
      unfold Lm
      simp [kl]
    rw [e, List.append_assoc]
    exact (List.Perm.append_left _ s.symm).trans ih
theorem Lm_short (k : Nat → F31) {m i : Nat} (h1 : 1 ≤ m) (h : i < 4) (e : (k i).val = m) : (Lm k m i).length < 4 := by
  obtain ⟨n, rfl⟩ : ∃ n, m = n + 1 := ⟨m - 1, by omega⟩
  have p := (Lm_perm k n).length_eq
  rw [List.length_append] at p
  have q : (Lm k (n + 1) i).length = (Lm k (n + 1) 0).length + (((kl k).take i).filter (is (n + 1))).length := by
    unfold Lm
    simp
  have l4 : (kl k).length = 4 := rfl
  have f : (((kl k).take i).filter (is (n + 1))).length + 1 ≤ ((kl k).filter (rest (n + 1))).length := by
    have hk : kl k = (kl k).take i ++ (k i :: (kl k).drop (i + 1)) := by
      obtain rfl | rfl | rfl | rfl : i = 0 ∨ i = 1 ∨ i = 2 ∨ i = 3 := by omega
      all_goals rfl
    have g : (((kl k).take i).filter (is (n + 1))).length ≤ (((kl k).take i).filter (rest (n + 1))).length := by
      rw [← List.countP_eq_length_filter, ← List.countP_eq_length_filter]
      refine List.countP_mono_left fun x _ hx => ?_
      unfold is at hx; unfold rest
      simp at hx ⊢
      omega
    conv => rhs; rw [hk]
    rw [List.filter_append, List.length_append, List.filter_cons_of_pos (by unfold rest; simp; omega), List.length_cons]
    omega
  omega
theorem Lm_le (k : Nat → F31) (m : Nat) : (Lm k (m + 1) 0).length ≤ 4 := by
  have p := (Lm_perm k m).length_eq
  rw [List.length_append] at p
  have l4 : (kl k).length = 4 := rfl
  omega
theorem Lm_mem (k : Nat → F31) : ∀ m, ∀ x ∈ Lm k (m + 1) 0, 1 ≤ x.val ∧ x.val ≤ m := by
  intro m x hx
  unfold Lm at hx
  simp only [Nat.add_sub_cancel, List.take_zero, List.filter_nil, List.append_nil, List.mem_flatMap, List.mem_range, List.mem_filter, is, beq_iff_eq] at hx
  obtain ⟨t, ht, _, e⟩ := hx
  omega
/-- the order of the program: zeros stand last -/
def cfK (x y : F31) : Int := if decide (x.val = 0) != decide (y.val = 0) then (y.val : Int) - x.val else (x.val : Int) - y.val
def key (x : F31) : Nat := if x.val = 0 then 31 else x.val
theorem lt_key (x y : F31) : ltOf cfK x y = decide (key x < key y) := by
  unfold ltOf cfK key
  have hx := x.isLt
  have hy := y.isLt
  by_cases a : x.val = 0 <;> by_cases b : y.val = 0 <;> simp [a, b] <;> omega
theorem swoK : Sort.SWO (ltOf cfK) where
  irrefl x := by rw [lt_key]; simp
  trans x y z h1 h2 := by rw [lt_key] at *; simp at *; omega
  ntrans x y z h1 h2 := by rw [lt_key] at *; simp at *; omega
theorem totK (x y : F31) (h1 : ltOf cfK x y = false) (h2 : ltOf cfK y x = false) : x = y := by
  rw [lt_key] at *
  simp at *
  unfold key at *
  have hx := x.isLt
  have hy := y.isLt
  apply Fin.ext
  by_cases a : x.val = 0 <;> by_cases b : y.val = 0
  all_goals
    simp only [a, b, if_true, if_false] at h1 h2
    omega
/-- the whole result -/
def FK (k : Nat → F31) : List F31 := Lm k 31 0 ++ (kl k).filter (rest 31)
theorem FK_perm (k : Nat → F31) : (FK k).Perm (kl k) := Lm_perm k 30
theorem FK_len (k : Nat → F31) : (FK k).length = 4 := (FK_perm k).length_eq
theorem Lm_sorted (k : Nat → F31) : ∀ m, m ≤ 30 → (Lm k (m + 1) 0).Pairwise fun a b => key a ≤ key b
  | 0, _ => by rw [Lm_start]; exact List.Pairwise.nil
  | m + 1, h => by
    have e : Lm k (m + 1 + 1) 0 = Lm k (m + 1) 0 ++ (kl k).filter (is (m + 1)) := by
      rw [Lm_next k (by omega)]
      unfold Lm
      simp [kl]
    rw [e, List.pairwise_append]
    refine ⟨Lm_sorted k m (by omega), ?_, ?_⟩
    · refine List.Pairwise.imp_of_mem (R := fun _ _ => True) (fun {a b} ha hb _ => ?_) (List.pairwise_of_forall fun _ _ => trivial)
      simp only [List.mem_filter, is, beq_iff_eq] at ha hb
      unfold key
      rw [ha.2, hb.2]; exact Nat.le_refl _
    · intro a ha b hb
      have h1 := Lm_mem k m a ha
      simp only [List.mem_filter, is, beq_iff_eq] at hb
      unfold key
      rw [if_neg (by omega), if_neg (by omega)]
      omega
theorem FK_sorted (k : Nat → F31) : (FK k).Pairwise fun a b => key a ≤ key b := by
  unfold FK
  have z : ∀ x ∈ (kl k).filter (rest 31), key x = 31 := by
    intro x hx
    have h := (List.mem_filter.1 hx).2
    unfold rest at h
    have := x.isLt
    simp at h
    unfold key
    rw [if_pos (by omega)]
  rw [List.pairwise_append]
  refine ⟨Lm_sorted k 30 (by omega), ?_, ?_⟩
  · refine List.Pairwise.imp_of_mem (R := fun _ _ => True) (fun {a b} ha hb _ => ?_) (List.pairwise_of_forall fun _ _ => trivial)
    rw [z a ha, z b hb]; exact Nat.le_refl _
  · intro a ha b hb
    rw [z b hb]
    unfold key
    have := a.isLt
    split <;> omega
theorem sort_unique (k : Nat → F31) (d' : Array F31) (hp : Sort.PermIn 0 4 (kl k).toArray d') (hs : Sort.SortedIn (ltOf cfK) 0 4 d') : d' = (FK k).toArray := by
  have hl := FK_len k
  have e1 := Sort.sorted_unique_holds swoK totK (kl k).toArray d' hp hs
  have p2 : Sort.PermIn 0 4 (kl k).toArray (FK k).toArray := by
    refine ⟨by simp [hl]; rfl, fun i hi => ?_, ?_⟩
    · have h4 : 4 ≤ i := by omega
      rw [getElem!_neg _ _ (by simp [hl]; omega), getElem!_neg _ _ (by simp [kl]; omega)]
    · rw [Array.extract_eq_self_of_le (by simp [hl]), Array.extract_eq_self_of_le (by simp [kl])]
      exact FK_perm k
  have s2 : Sort.SortedIn (ltOf cfK) 0 4 (FK k).toArray := by
    intro i j _ hij hj
    have h := List.pairwise_iff_getElem.1 (FK_sorted k) i j (by omega) (by omega) hij
    rw [getElem!_pos (FK k).toArray j (by simp [hl]; omega), getElem!_pos (FK k).toArray i (by simp [hl]; omega), lt_key]
    simp only [List.getElem_toArray, decide_eq_false_iff_not]
    omega
  have e2 := Sort.sorted_unique_holds swoK totK (kl k).toArray (FK k).toArray p2 s2
  exact Array.toList_inj.1 (e1.trans e2.symm)
/-- the cells of the result: what is there, then zeros -/
def cel (L : List F31) : Nat → Int := fun t => ((L.getD t 0).val : Int)
theorem cel_put (L : List F31) (x : F31) (t : Nat) : cel (L ++ [x]) t = if t = L.length then (x.val : Int) else cel L t := by
  unfold cel
  rw [List.getD_eq_getElem?_getD, List.getD_eq_getElem?_getD]
  by_cases h : t < L.length
  · rw [List.getElem?_append_left h, if_neg (by omega)]
  · rw [List.getElem?_append_right (by omega)]
    by_cases e : t = L.length
    · rw [if_pos e, e]; simp
    · rw [if_neg e, List.getElem?_eq_none (l := [x]) (by simp; omega), List.getElem?_eq_none (by omega)]
theorem cel_FK (k : Nat → F31) (t : Nat) : cel (FK k) t = cel (Lm k 31 0) t := by
  unfold cel FK
  rw [List.getD_eq_getElem?_getD, List.getD_eq_getElem?_getD]
  by_cases h : t < (Lm k 31 0).length
  · rw [List.getElem?_append_left h]
  · rw [List.getElem?_append_right (by omega), List.getElem?_eq_none (l := Lm k 31 0) (by omega)]
    cases q : ((kl k).filter (rest 31))[t - (Lm k 31 0).length]? with
    | none => rfl
    | some x =>
      have hm := (List.mem_filter.1 (List.mem_of_getElem? q)).2
      unfold rest at hm
      have := x.isLt
      simp at hm
      simp; omega
end Go.Proofs.Ytohbmlhaaagfhaa
