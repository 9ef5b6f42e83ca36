/- CountToTell: the plain law. No statement of the seat is proved here. -/
import Derived.Test.YtlhodfjdmafapaaPNext
import Derived.Test.YtlhodfjdmafapaaTellTop
import Derived.Test.YtlhodfjdmafapaaQAll4
namespace Go.Proofs.Ytlhodfjdmafapaa
open Go.RowKit Go.Proofs.YtlhodfjdmafapaaW.PrintWords Go.Proofs.YtlhodfjdmafapaaW.PrintLast Go.Proofs.Ytlhodfjdmafapaa.QAll
set_option linter.unusedVariables false
set_option linter.unusedSimpArgs false
def sumC (time : Int) (acc : Int) (L : List Ent) : Int := L.foldl (fun x e => if e.1.2 = time then wrap64 (x + e.2.1) else x) acc
theorem tell_c_same (time : Int) (n : Nat) : ∀ (L : List Ent) (B : Best), (L.foldl (tellStep time n) B).c n = sumC time (B.c n) L
  | [], B => rfl
  | e :: r, B => by
    have hs : sumC time (B.c n) (e :: r) = sumC time (if e.1.2 = time then wrap64 (B.c n + e.2.1) else B.c n) r := rfl
    rw [List.foldl_cons, tell_c_same time n r, hs]
    congr 1
    unfold tellStep
    by_cases h : e.1.2 = time
    · rw [if_pos h, if_pos h]; simp [upd]
    · rw [if_neg h, if_neg h]
theorem tell_c_other (time : Int) {n m : Nat} (h : n ≠ m) : ∀ (L : List Ent) (B : Best), (L.foldl (tellStep time m) B).c n = B.c n
  | [], B => rfl
  | e :: r, B => by
    rw [List.foldl_cons, tell_c_other time h r]
    unfold tellStep
    by_cases q : e.1.2 = time
    · rw [if_pos q]; simp [upd, h]
    · rw [if_neg q]
theorem tell_c_low (k : Nat → Int) (s : Sd) (time : Int) : ∀ (m n : Nat), m ≤ n → (tellTo k s time m).c n = 0
  | 0, n, _ => rfl
  | m + 1, n, h => by
    rw [tellTo, tell_c_other time (by omega)]
    exact tell_c_low k s time m n (by omega)
theorem tell_c (k : Nat → Int) (s : Sd) (time : Int) (n : Nat) : ∀ m, n < m → (tellTo k s time m).c n = sumC time 0 (levP k time s n)
  | 0, h => absurd h (Nat.not_lt_zero n)
  | m + 1, h => by
    by_cases e : n = m
    · subst e
      rw [tellTo, tell_c_same, tell_c_low k s time n n (Nat.le_refl _)]
    · rw [tellTo, tell_c_other time e]
      exact tell_c k s time n m (by omega)
theorem in_f (n lo hi : Int) : spec_l1In.f n lo hi = some (inB lo hi n) := by
  unfold spec_l1In.f inB
  by_cases h : lo ≤ n
  · rw [if_pos h]; simp [h]
  · rw [if_neg h]; simp [h]
theorem good_f (a b c d : Int) (s : Sd) (time : Int) : spec_l3Good.f a b c d s.1 s.2.1 s.2.2.1 s.2.2.2 time = some (searchB (v4 a b c d) s time) := by
  unfold spec_l3Good.f
  rw [show xL2Sand.f a b c d s.1 s.2.1 s.2.2.1 s.2.2.2 = some (isSandB (v4 a b c d) (fn4 s) && isKitB (v4 a b c d)) from rfl, show xL3Many.f a b c d = some (prodOf (v4 a b c d)) from rfl]
  simp only [Option.bind_some, in_f]
  unfold searchB
  rw [Bool.and_comm (isKitB _)]
  cases h1 : (isSandB (v4 a b c d) (fn4 s) && isKitB (v4 a b c d))
  · simp
  · by_cases h2 : prodOf (v4 a b c d) ≤ 1000
    · simp [h2]
    · simp [h2]
theorem search_more {a b c d : Int} {s : Sd} {time : Int} (h : searchB (v4 a b c d) s time = true) : isKitB (v4 a b c d) = true ∧ (∀ i, i < 4 → 0 ≤ v4 a b c d i ∧ v4 a b c d i ≤ 30) ∧ prodT (v4 a b c d) ≤ 1000 := by
  unfold searchB at h
  simp only [Bool.and_eq_true, decide_eq_true_eq] at h
  have hk := kit_bounds h.1.1
  exact ⟨h.1.1, hk, by have := (prod_is hk).1; omega⟩
section
variable (a b c d : Int) (s : Sd) (time : Int) (h : searchB (v4 a b c d) s time = true)
include h
theorem lev_next (bl : Bool) {n : Nat} (hn : n ≤ 11) : Ev (fun f => spec_l3Next.f f a b c d ((levP (v4 a b c d) time s n).map (toS bl)) time bl) ((levP (v4 a b c d) time s (n + 1)).map (toS bl)) := by
  obtain ⟨h1, h2, h3⟩ := search_parts h
  obtain ⟨q1, q2, q3⟩ := search_more h
  have hi := levP_in h1 h2 n
  exact next_ev a b c d time h2 h3 q2 q1 q3 bl _ hi (fun e he => by have := levP_turns (v4 a b c d) time s n e he; omega) (by
    cases n with
    | zero => simp [levP]
    | succ n => exact lev_few h2 h3 q2 q3 (nextP_nd _ _ _) hi)
theorem lev_len (n : Nat) : (levP (v4 a b c d) time s n).length ≤ 41000 := by
  obtain ⟨h1, h2, h3⟩ := search_parts h
  obtain ⟨q1, q2, q3⟩ := search_more h
  cases n with
  | zero => simp [levP]
  | succ n => exact lev_few h2 h3 q2 q3 (nextP_nd _ _ _) (levP_in h1 h2 (n + 1))
theorem count_l0 (n : Nat) (hn : n ≤ 12) (r : Int × Bool) (hK : Ev (fun f => spec_CountToTell.l1 f time ((levP (v4 a b c d) time s n).map (toS false)) 0 0) r) :
    ∀ (dd i : Nat), i + dd = n → Ev (fun f => spec_CountToTell.l0 f time (n : Int) ((levP (v4 a b c d) time s i).map (toS false)) (i : Int) a b c d) r
  | 0, i, hi => by
    refine Ev.step (f := fun f => _) (fun f => by simp only [spec_CountToTell.l0]; rfl) ?_
    refine ev_neg (by omega) ?_
    rw [show i = n by omega]
    exact hK
  | dd + 1, i, hi => by
    have hw : wrap64 ((i : Int) + 1) = ((i + 1 : Nat) : Int) := by unfold wrap64; omega
    refine Ev.step (f := fun f => _) (fun f => by simp only [spec_CountToTell.l0]; rfl) ?_
    refine ev_pos (by omega) ?_
    refine Ev.bind (lev_next a b c d s time h false (n := i) (by omega)) ?_
    rw [hw]
    exact count_l0 n hn r hK dd (i + 1) (by omega)
end
theorem count_l1 (time : Int) (L : List Ent) (hl : L.length ≤ 41000) : ∀ (dd i : Nat) (acc : Int), i + dd = L.length → Ev (fun f => spec_CountToTell.l1 f time (L.map (toS false)) acc (i : Int)) (sumC time acc (L.drop i), true)
  | 0, i, acc, hi => by
    refine Ev.step (f := fun f => _) (fun f => by simp only [spec_CountToTell.l1]; rfl) ?_
    refine ev_neg (by rw [List.length_map]; omega) ?_
    rw [List.drop_eq_nil_of_le (by omega)]
    exact Ev.now _
  | dd + 1, i, acc, hi => by
    have hw : wrap64 ((i : Int) + 1) = ((i + 1 : Nat) : Int) := by unfold wrap64; omega
    have hrd : rd_T83 (L.map (toS false)) (i : Int) = toS false L[i] := by
      simp [rd_T83, List.getD_eq_getElem?_getD, List.getElem?_eq_getElem (show i < L.length by omega)]
    refine Ev.step (f := fun f => _) (fun f => by simp only [spec_CountToTell.l1]; rfl) ?_
    refine ev_pos (by rw [List.length_map]; omega) (ev_pos (by omega) ?_)
    rw [hrd, hw, List.drop_eq_getElem_cons (by omega)]
    by_cases q : L[i].1.2 = time
    · refine ev_pos q ?_
      have := count_l1 time L hl dd (i + 1) (wrap64 (acc + L[i].2.1)) (by omega)
      rw [sumC, List.foldl_cons, if_pos q]
      exact this
    · refine ev_neg q ?_
      have := count_l1 time L hl dd (i + 1) acc (by omega)
      rw [sumC, List.foldl_cons, if_neg q]
      exact this
theorem count_spec (a b c d : Int) (s : Sd) (time n : Int) : ∃ x ok, Ev (fun f => spec_CountToTell.f f a b c d s.1 s.2.1 s.2.2.1 s.2.2.2 time n) (x, ok) ∧ xCount.f a b c d s.1 s.2.1 s.2.2.1 s.2.2.2 time n = some (x, ok) := by
  have hg := good_f a b c d s time
  unfold spec_CountToTell.f xCount.f
  rw [hg]
  simp only [Option.bind_some, in_f]
  cases h : searchB (v4 a b c d) s time
  · refine ⟨0, false, ?_, if_neg (fun z => absurd z.1 (by simp))⟩
    refine ev_neg (by simp) ?_
    exact Ev.step (f := fun _ => some (0, false)) (fun f => by simp [spec_CountToTell.j0]) (Ev.now _)
  · cases hn : inB 0 12 n
    · refine ⟨0, false, ?_, if_neg (fun z => by simp at z)⟩
      refine ev_pos rfl ?_
      exact Ev.step (f := fun _ => some (0, false)) (fun f => by simp [spec_CountToTell.j0]) (Ev.now _)
    · have hn' := hn
      rw [inB_iff] at hn
      obtain ⟨m, rfl⟩ := Int.eq_ofNat_of_zero_le hn.1
      refine ⟨(tellTo (v4 a b c d) s time 13).c m, true, ?_, ?_⟩
      · refine ev_pos rfl ?_
        refine Ev.step (f := fun f => _) (fun f => by simp only [spec_CountToTell.j0]; rfl) ?_
        refine ev_neg (by simp) ?_
        rw [tell_c (v4 a b c d) s time m 13 (by omega)]
        have := count_l0 a b c d s time h m (by omega) _ (by simpa using count_l1 time (levP (v4 a b c d) time s m) (lev_len a b c d s time h m) _ 0 0 (by simp; rfl)) m 0 (by omega)
        exact this
      · rw [if_pos ⟨rfl, rfl⟩, Int.toNat_natCast]
theorem countToTell_law (a0_0 a0_1 a0_2 a0_3 a1_0 a1_1 a1_2 a1_3 a2 a3 : Int) : ∃ k, laws_FnExactCountToTell.f k a0_0 a0_1 a0_2 a0_3 a1_0 a1_1 a1_2 a1_3 a2 a3 = some true := by
  refine Ev.rounds ?_
  obtain ⟨x, ok, h1, h2⟩ := count_spec a0_0 a0_1 a0_2 a0_3 (a1_0, a1_1, a1_2, a1_3) a2 a3
  unfold laws_FnExactCountToTell.f
  rw [show xToKit.f a0_0 a0_1 a0_2 a0_3 = some (a0_0, a0_1, a0_2, a0_3) from rfl, show xToIntA4.f a1_0 a1_1 a1_2 a1_3 = some (a1_0, a1_1, a1_2, a1_3) from rfl]
  simp only [Option.bind_some]
  refine Ev.bind h1 ?_
  simp only at h2
  rw [h2]
  simp only [Option.bind_some]
  exact ev_pos (by trivial) (ev_neg (by simp) (Ev.now _))
end Go.Proofs.Ytlhodfjdmafapaa
