/- CanTell, FewestToTell: the plain laws. No statement of the seat is proved here. -/
import Derived.Test.YtlhodfjdmafapaaPFresh
import Derived.Test.YtlhodfjdmafapaaQAll9
namespace Go.Proofs.Ytlhodfjdmafapaa
open Go.RowKit Go.Proofs.YtlhodfjdmafapaaW.PrintWords Go.Proofs.YtlhodfjdmafapaaW.PrintLast Go.Proofs.Ytlhodfjdmafapaa.QAll
set_option linter.unusedVariables false
set_option linter.unusedSimpArgs false
def frsS (k : Nat → Int) (time : Int) (s : Sd) (n : Nat) : List S83 := (frs k time s n).1.map (toS true)
theorem rdB_same {l : List Bool} {i : Int} (h0 : 0 ≤ i) (h1 : i < (l.length : Int)) : rdOf false (l.set i.toNat true) i = true := by
  unfold rdOf
  rw [List.getD_eq_getElem?_getD, List.getElem?_set_self (by omega)]; rfl
theorem rdB_ne {l : List Bool} {i j : Int} (h0 : 0 ≤ i) (h1 : 0 ≤ j) (h : i ≠ j) : rdOf false (l.set i.toNat true) j = rdOf false l j := by
  unfold rdOf
  rw [List.getD_eq_getElem?_getD, List.getElem?_set_ne (by omega), List.getD_eq_getElem?_getD]
structure Sn (k : Nat → Int) (most : Int) (l : List Bool) (S : List Spot) : Prop where
  len : (l.length : Int) = (most + 1) * prodT k
  iff : ∀ (x : Spot), Val k most x → (rdOf false l (sid k x) = true ↔ x ∈ S)
theorem Sn.snoc {k : Nat → Int} {most : Int} (m0 : 0 ≤ most) (m1 : most ≤ 40) (hk : ∀ i, i < 4 → 0 ≤ k i ∧ k i ≤ 30) {l : List Bool} {S : List Spot} (h : Sn k most l S) {y : Spot} (hy : Val k most y) : Sn k most (l.set (sid k y).toNat true) (S ++ [y]) := by
  have hb := sid_b m0 m1 hy hk
  refine ⟨by simp [h.len], fun x hx => ?_⟩
  have hb2 := sid_b m0 m1 hx hk
  by_cases e : x = y
  · subst e
    rw [rdB_same hb.1 (by rw [h.len]; exact hb.2)]
    simp
  · rw [rdB_ne hb.1 hb2.1 (fun q => e (sid_inj m1 hx hy q.symm)), h.iff x hx]
    simp [e]
section
variable {k : Nat → Int} {most : Int} {s : Sd}
theorem frs_in (h : Sand k (fn4 s)) (hm : 0 ≤ most) : ∀ n, InK k most (frs k most s n).1
  | 0 => ⟨fun e he => by rw [List.mem_singleton.1 he]; exact ⟨h, Int.le_refl 0, hm⟩⟩
  | n + 1 => ⟨fun e he => (foldIns_in _ ⟨fun e he => absurd he List.not_mem_nil⟩ (con_in (frs_in h hm n))).all e (List.mem_filter.1 he).1⟩
theorem frs_nd : ∀ n, Nd (frs k most s n).1
  | 0 => List.pairwise_singleton _ _
  | n + 1 => (nextP_nd k most _).filter _
theorem next_turns {L : List Ent} {b : Int} (h : ∀ e ∈ L, 0 ≤ e.2.2 ∧ e.2.2 ≤ b) : ∀ e ∈ nextP k most L, 0 ≤ e.2.2 ∧ e.2.2 ≤ b + 4 := foldIns_turns _ (fun e he => absurd he List.not_mem_nil) (con_turns h)
theorem frs_turns : ∀ (n : Nat), ∀ e ∈ (frs k most s n).1, 0 ≤ e.2.2 ∧ e.2.2 ≤ 4 * (n : Int)
  | 0 => fun e he => by rw [List.mem_singleton.1 he]; simp
  | n + 1 => fun e he => by
    have := next_turns (frs_turns n) e (List.mem_filter.1 he).1
    omega
end
section
variable (a b c d : Int) (s : Sd) (time : Int) (h : searchB (v4 a b c d) s time = true)
include h
theorem levF_l1 (X : List (List S83)) (hX : X.length ≤ 100) (n : Nat) (NX : List Ent) (S : List Spot) (hnd : Nd NX) (hi : InK (v4 a b c d) time NX) (hlen : NX.length ≤ 41000) (r : List (List S83)) :
    ∀ (dd j : Nat) (x9 : List Bool), j + dd = NX.length → Sn (v4 a b c d) time x9 (S ++ (NX.take j).map (·.1)) →
    (∀ x9', Sn (v4 a b c d) time x9' (S ++ NX.map (·.1)) → Ev (fun f => spec_l3Levels.l0 f time true x9' (X ++ [(NX.filter (fun e => !decide (e.1 ∈ S))).map (toS true)]) (wrap64 ((n : Int) + 1)) a b c d) r) →
    Ev (fun f => spec_l3Levels.l1 f time true x9 X (n : Int) (((NX.take j).filter (fun e => !decide (e.1 ∈ S))).map (toS true)) (NX.map (toS true)) (j : Int) a b c d) r
  | 0, j, x9, hj, h9, hK => by
    refine Ev.step (f := fun f => _) (fun f => by simp only [spec_l3Levels.l1]; rfl) ?_
    refine ev_neg (by rw [List.length_map]; omega) ?_
    refine ev_pos (by omega) ?_
    rw [List.take_of_length_le (by omega)] at h9 ⊢
    exact hK x9 h9
  | dd + 1, j, x9, hj, h9, hK => by
    obtain ⟨h1, h2, h3⟩ := search_parts h
    obtain ⟨q1, q2, q3⟩ := search_more h
    have hw : wrap64 ((j : Int) + 1) = ((j + 1 : Nat) : Int) := by unfold wrap64; omega
    have hjl : j < NX.length := by omega
    have hrd : rd_T83 (NX.map (toS true)) (j : Int) = toS true NX[j] := by
      simp [rd_T83, List.getD_eq_getElem?_getD, List.getElem?_eq_getElem hjl]
    have hv : Val (v4 a b c d) time NX[j].1 := hi.all _ (List.getElem_mem hjl)
    have hb := sid_b h2 h3 hv q2
    have hid : xL3Id.f a b c d (toS true NX[j]).f0 (toS true NX[j]).f1.f0 (toS true NX[j]).f1.f1 (toS true NX[j]).f1.f2 (toS true NX[j]).f1.f3 = some (sid (v4 a b c d) NX[j].1) := rfl
    have hnot : NX[j].1 ∉ (NX.take j).map (·.1) := fun hm => by
      obtain ⟨e, he, hee⟩ := List.mem_map.1 hm
      have hd : NX.take j ++ NX[j] :: NX.drop (j + 1) = NX := by rw [← List.drop_eq_getElem_cons hjl, List.take_append_drop]
      have hn2 := hnd
      rw [← hd] at hn2
      unfold Nd at hn2
      rw [List.pairwise_append] at hn2
      exact hn2.2.2 e he NX[j] List.mem_cons_self hee
    have hS := h9.snoc h2 h3 q2 hv
    have hiff := h9.iff _ hv
    have hmem : NX[j].1 ∈ S ++ (NX.take j).map (·.1) ↔ NX[j].1 ∈ S := by
      rw [List.mem_append]
      exact ⟨fun z => z.resolve_right hnot, .inl⟩
    have hS2 : Sn (v4 a b c d) time (x9.set (sid (v4 a b c d) NX[j].1).toNat true) (S ++ (NX.take (j + 1)).map (·.1)) := by
      rw [List.take_succ_eq_append_getElem hjl, List.map_append, ← List.append_assoc]
      exact hS
    have IH := levF_l1 X hX n NX S hnd hi hlen r dd (j + 1) _ (by omega) hS2 hK
    refine Ev.step (f := fun f => _) (fun f => by simp only [spec_l3Levels.l1]; rfl) ?_
    refine ev_pos (by rw [List.length_map]; omega) (ev_pos (by omega) ?_)
    rw [hrd, hid]
    simp only [Option.bind_some]
    refine ev_pos (by trivial) (ev_pos hb.1 (ev_pos (by rw [h9.len]; exact hb.2) ?_))
    rw [hw]
    rw [List.take_succ_eq_append_getElem hjl, List.filter_append, List.map_append] at IH
    by_cases q : NX[j].1 ∈ S
    · refine ev_pos (hiff.2 (hmem.2 q)) ?_
      rw [List.filter_cons_of_neg (by simp [q]), List.filter_nil, List.map_nil, List.append_nil] at IH
      exact IH
    · refine ev_neg (fun z => q (hmem.1 (hiff.1 z))) (ev_pos (by
        have := List.length_filter_le (fun e : Ent => !decide (e.1 ∈ S)) (NX.take j)
        rw [List.length_take] at this
        rw [List.length_map]; omega) ?_)
      rw [List.filter_cons_of_pos (by simp [q]), List.filter_nil] at IH
      exact IH
theorem levF_l0 : ∀ (dd n : Nat) (x9 : List Bool), n + dd = 13 → 1 ≤ n → Sn (v4 a b c d) time x9 (frs (v4 a b c d) time s (n - 1)).2 →
    Ev (fun f => spec_l3Levels.l0 f time true x9 ((List.range n).map (frsS (v4 a b c d) time s)) (n : Int) a b c d) ((List.range 13).map (frsS (v4 a b c d) time s))
  | 0, n, x9, hn, h1, h9 => by
    refine Ev.step (f := fun f => _) (fun f => by simp only [spec_l3Levels.l0]; rfl) ?_
    refine ev_neg (by omega) ?_
    rw [show n = 13 by omega]
    exact Ev.now _
  | dd + 1, n, x9, hn, hn1, h9 => by
    obtain ⟨h1, h2, h3⟩ := search_parts h
    obtain ⟨q1, q2, q3⟩ := search_more h
    obtain ⟨m, rfl⟩ : ∃ m, n = m + 1 := ⟨n - 1, by omega⟩
    rw [Nat.add_sub_cancel] at h9
    have hw : wrap64 (((m + 1 : Nat) : Int) + 1) = ((m + 1 + 1 : Nat) : Int) := by unfold wrap64; omega
    have hw1 : wrap64 (((m + 1 : Nat) : Int) - 1) = (m : Int) := by unfold wrap64; omega
    have hrd : rd_L6 ((List.range (m + 1)).map (frsS (v4 a b c d) time s)) (m : Int) = (frs (v4 a b c d) time s m).1.map (toS true) := by
      simp [rd_L6, frsS, List.getD_eq_getElem?_getD, List.getElem?_range (show m < m + 1 by omega)]
    have hin := frs_in (most := time) h1 h2 m
    have hnx := next_ev a b c d time h2 h3 q2 q1 q3 true _ hin (fun e he => by have := frs_turns m e he; omega) (lev_few h2 h3 q2 q3 (frs_nd m) hin)
    have hin2 : InK (v4 a b c d) time (nextP (v4 a b c d) time (frs (v4 a b c d) time s m).1) := foldIns_in _ ⟨fun e he => absurd he List.not_mem_nil⟩ (con_in hin)
    refine Ev.step (f := fun f => _) (fun f => by simp only [spec_l3Levels.l0]; rfl) ?_
    rw [hw1, hrd]
    refine ev_pos (by omega) (ev_pos (by omega) (ev_pos (by simp; omega) ?_))
    refine Ev.bind hnx ?_
    refine levF_l1 a b c d s time h _ (by simp; omega) (m + 1) _ (frs (v4 a b c d) time s m).2 (nextP_nd _ _ _) hin2 (lev_few h2 h3 q2 q3 (nextP_nd _ _ _) hin2) _ (nextP (v4 a b c d) time (frs (v4 a b c d) time s m).1).length 0 x9 (Nat.zero_add _) (by simpa using h9) (fun x9' h9' => ?_)
    rw [hw]
    have := levF_l0 dd (m + 1 + 1) x9' (by omega) (by omega) h9'
    rw [List.range_succ (n := m + 1), List.map_append] at this
    exact this
theorem levelsF_ev : Ev (fun f => spec_l3Levels.f f a b c d s.1 s.2.1 s.2.2.1 s.2.2.2 time true) ((List.range 13).map (frsS (v4 a b c d) time s)) := by
  obtain ⟨h1, h2, h3⟩ := search_parts h
  obtain ⟨q1, q2, q3⟩ := search_more h
  have hp := prod_is q2
  have hmany : xL3Many.f a b c d = some (prodOf (v4 a b c d)) := rfl
  have hb0 : 0 ≤ (time + 1) * prodT (v4 a b c d) := Int.mul_nonneg (by omega) (by omega)
  have hb : (time + 1) * prodT (v4 a b c d) ≤ 41 * 1000 := Int.le_trans (Int.mul_le_mul_of_nonneg_right (by omega : time + 1 ≤ 41) (by omega)) (Int.mul_le_mul_of_nonneg_left q3 (by omega))
  have e1 : wrap64 (wrap64 (time + 1) * prodT (v4 a b c d)) = (time + 1) * prodT (v4 a b c d) := by
    rw [wrap_big (x := time + 1) (by omega) (by omega), wrap_big hb0 (by omega)]
  have hv : Val (v4 a b c d) time ((s, 0) : Spot) := ⟨h1, Int.le_refl 0, h2⟩
  have hs := sid_b h2 h3 hv q2
  have hid : xL3Id.f a b c d 0 s.1 s.2.1 s.2.2.1 s.2.2.2 = some (sid (v4 a b c d) ((s, 0) : Spot)) := rfl
  unfold spec_l3Levels.f
  rw [hmany, hp.1]
  simp only [Option.bind_some]
  rw [e1, hid]
  simp only [Option.bind_some]
  refine ev_pos hb0 (ev_pos (by omega) (ev_pos hs.1 (ev_pos (by rw [List.length_replicate]; omega) ?_)))
  have hempty : Sn (v4 a b c d) time (List.replicate ((time + 1) * prodT (v4 a b c d)).toNat false) [] := ⟨by rw [List.length_replicate]; omega, fun x hx => by
    unfold rdOf
    rw [List.getD_eq_getElem?_getD, List.getElem?_replicate]
    split <;> simp⟩
  have := levF_l0 a b c d s time h 12 1 _ (by omega) (by omega) (hempty.snoc h2 h3 q2 hv)
  exact this
end
theorem sets_l1 (time : Int) (X : List (List S83)) (n : Nat) (hX : n < X.length) (hX2 : X.length ≤ 100) (L : List Ent) (hL : L.length ≤ 41000) (hrd : rd_L6 X (n : Int) = L.map (toS true)) (r : Int) (hK : hasT time L = false → Ev (fun f => spec_l3Sets.l0 f time X ((n + 1 : Nat) : Int)) r) (hr : hasT time L = true → r = (n : Int)) :
    ∀ (dd i : Nat), i + dd = L.length → (∀ e ∈ L.take i, e.1.2 ≠ time) → Ev (fun f => spec_l3Sets.l1 f time X (n : Int) (i : Int)) r
  | 0, i, hi, hno => by
    have hw : wrap64 ((n : Int) + 1) = ((n + 1 : Nat) : Int) := by unfold wrap64; omega
    refine Ev.step (f := fun f => _) (fun f => by simp only [spec_l3Sets.l1]; rfl) ?_
    refine ev_pos (by omega) (ev_pos (by omega) ?_)
    rw [hrd, hw]
    refine ev_neg (by rw [List.length_map]; omega) (hK ?_)
    rw [List.take_of_length_le (by omega)] at hno
    cases z : hasT time L
    · rfl
    · obtain ⟨x, h1, e, h2, h3⟩ := hasT_iff.1 z
      exact absurd (by rw [h3]; exact h1) (hno e h2)
  | dd + 1, i, hi, hno => by
    have hw : wrap64 ((i : Int) + 1) = ((i + 1 : Nat) : Int) := by unfold wrap64; omega
    have hil : i < L.length := by omega
    have hrd2 : rd_T83 (L.map (toS true)) (i : Int) = toS true L[i] := by
      simp [rd_T83, List.getD_eq_getElem?_getD, List.getElem?_eq_getElem hil]
    refine Ev.step (f := fun f => _) (fun f => by simp only [spec_l3Sets.l1]; rfl) ?_
    refine ev_pos (by omega) (ev_pos (by omega) ?_)
    rw [hrd]
    refine ev_pos (by rw [List.length_map]; omega) (ev_pos (by omega) ?_)
    rw [hrd2, hw]
    by_cases q : L[i].1.2 = time
    · refine ev_pos q ?_
      rw [hr (hasT_iff.2 ⟨L[i].1, q, L[i], List.getElem_mem hil, rfl⟩)]
      exact Ev.now _
    · refine ev_neg q ?_
      refine sets_l1 time X n hX hX2 L hL hrd r hK hr dd (i + 1) (by omega) (fun e he => ?_)
      rw [List.take_succ_eq_append_getElem hil] at he
      rcases List.mem_append.1 he with he | he
      · exact hno e he
      · rw [List.mem_singleton.1 he]; exact q
theorem sets_l0f (k : Nat → Int) (time : Int) (s : Sd) (hl : ∀ n, (frs k time s n).1.length ≤ 41000) : ∀ (dd n : Nat), n + dd = 13 → Ev (fun f => spec_l3Sets.l0 f time ((List.range 13).map (frsS k time s)) (n : Int)) (firstT (fun n => (frs k time s n).1) time dd n)
  | 0, n, hn => by
    refine Ev.step (f := fun f => _) (fun f => by simp only [spec_l3Sets.l0]; rfl) ?_
    exact ev_neg (by simp; omega) (Ev.now _)
  | dd + 1, n, hn => by
    refine Ev.step (f := fun f => _) (fun f => by simp only [spec_l3Sets.l0]; rfl) ?_
    refine ev_pos (by simp; omega) ?_
    have hrd : rd_L6 ((List.range 13).map (frsS k time s)) (n : Int) = (frs k time s n).1.map (toS true) := by
      simp [rd_L6, frsS, List.getD_eq_getElem?_getD, List.getElem?_range (show n < 13 by omega)]
    unfold firstT
    refine sets_l1 time _ n (by simp; omega) (by simp) _ (hl n) hrd _ (fun z => ?_) (fun z => ?_) _ 0 (Nat.zero_add _) (fun e he => absurd he (by simp))
    · rw [if_neg (by rw [z]; simp)]
      exact sets_l0f k time s hl dd (n + 1) (by omega)
    · rw [if_pos z]
theorem sets_ev (a b c d : Int) (s : Sd) (time : Int) (h : searchB (v4 a b c d) s time = true) : Ev (fun f => spec_l3Sets.f f a b c d s.1 s.2.1 s.2.2.1 s.2.2.2 time) (tellTo (v4 a b c d) s time 13).sets := by
  obtain ⟨h1, h2, h3⟩ := search_parts h
  obtain ⟨q1, q2, q3⟩ := search_more h
  rw [tell_sets]
  unfold spec_l3Sets.f
  exact Ev.bind (levelsF_ev a b c d s time h) (sets_l0f _ time s (fun n => lev_few h2 h3 q2 q3 (frs_nd n) (frs_in h1 h2 n)) 13 0 (by omega))
end Go.Proofs.Ytlhodfjdmafapaa
