/- CountRopePlans: the program's and the reference's contracts. No statement of the seat is proved here. -/
import Derived.Test.YtdbnajaimodnmaaEachS
namespace Go.Proofs.Ytdbnajaimodnmaa
open Go.RowKit Go.Proofs.YtdbnajaimodnmaaW.PrintWords Go.Proofs.YtdbnajaimodnmaaW.PrintLast Go.Proofs.Ytdbnajaimodnmaa.QPl
set_option linter.unusedVariables false
set_option linter.unusedSimpArgs false
theorem cnt_l1 (T : Int) (n : Nat) (f : Nat → Int) (E : List Int) (hE : E.length ≤ 1000000) (R : Int × Bool) : ∀ (dd i m : Nat), i + dd = E.length → m + dd ≤ 100000000 →
    Ev (fun k => spec_CountRopePlans.l0 k T ((m + cntA T 0 (E.drop i) : Nat) : Int) (wrap64 ((n : Int) + 1)) (f 0) (f 1) (f 2) (f 3) (f 4) (f 5)) R →
    Ev (fun k => spec_CountRopePlans.l1 k T (m : Int) (n : Int) E (i : Int) (f 0) (f 1) (f 2) (f 3) (f 4) (f 5)) R
  | 0, i, m, hi, hm, hK => by
    obtain rfl : i = E.length := by omega
    rw [List.drop_length, show cntA T 0 [] = 0 from rfl, Nat.add_zero] at hK
    refine Ev.step (f := fun f => _) (fun f => by simp only [spec_CountRopePlans.l1]; rfl) ?_
    exact ev_neg (by omega) hK
  | dd + 1, i, m, hi, hm, hK => by
    have hw : wrap64 ((i : Int) + 1) = ((i + 1 : Nat) : Int) := by unfold wrap64; omega
    have hwm : wrap64 ((m : Int) + 1) = ((m + 1 : Nat) : Int) := by unfold wrap64; omega
    have hil : i < E.length := by omega
    have hr : rd E (i : Int) = E[i] := by simp [rd, List.getD_eq_getElem?_getD, List.getElem?_eq_getElem hil]
    have hd : cntA T 0 (E.drop i) = cntA T 0 (E.drop (i + 1)) + if E[i] = T then 1 else 0 := by
      rw [List.drop_eq_getElem_cons hil]
      unfold cntA
      rw [List.countP_cons, Int.zero_add]
      by_cases z : E[i] = T
      · simp [z]
      · simp [z]
    refine Ev.step (f := fun f => _) (fun f => by simp only [spec_CountRopePlans.l1]; rfl) ?_
    refine ev_pos (by omega) (ev_pos (by omega) ?_)
    rw [hr, hw, hwm]
    by_cases z : E[i] = T
    · refine ev_pos z (cnt_l1 T n f E hE R dd (i + 1) (m + 1) (by omega) (by omega) ?_)
      rw [hd, if_pos z] at hK
      rw [show m + 1 + cntA T 0 (E.drop (i + 1)) = m + (cntA T 0 (E.drop (i + 1)) + 1) by omega]
      exact hK
    · refine ev_neg z (cnt_l1 T n f E hE R dd (i + 1) m (by omega) (by omega) ?_)
      rw [hd, if_neg z, Nat.add_zero] at hK
      exact hK
def smE (T : Int) (f : Nat → Int) : Nat → Nat
  | 0 => 0
  | n + 1 => sumE T 0 f n
theorem smE_s (T : Int) (f : Nat → Int) : ∀ n, smE T f (n + 1) = smE T f n + cntA T 0 (endsL n f)
  | 0 => by show sumE T 0 f 0 = 0 + _; rw [sumE_z, Nat.zero_add]
  | n + 1 => by show sumE T 0 f (n + 1) = sumE T 0 f n + _; rw [sumE_s]
theorem smE_le (T : Int) (f : Nat → Int) : ∀ n, n ≤ 4 → smE T f n ≤ n * 20000
  | 0, _ => Nat.le_refl _
  | n + 1, h => by
    rw [smE_s, Nat.succ_mul]
    refine Nat.add_le_add (smE_le T f n (by omega)) (Nat.le_trans List.countP_le_length (Nat.le_trans (ends_len n f) (Nat.le_trans (Nat.pow_le_pow_right (by omega) (show n ≤ 3 by omega)) (show 27 ^ 3 ≤ 20000 by decide))))
theorem cnt_l0 (T : Int) (f : Nat → Int) (hf : isRopesB f = true) : ∀ (dd n : Nat), n + dd = 4 → Ev (fun k => spec_CountRopePlans.l0 k T (smE T f n : Int) (n : Int) (f 0) (f 1) (f 2) (f 3) (f 4) (f 5)) ((smE T f 4 : Int), true)
  | 0, n, hn => by
    obtain rfl : n = 4 := by omega
    refine Ev.step (f := fun f => _) (fun f => by simp only [spec_CountRopePlans.l0]; rfl) ?_
    exact ev_neg (by omega) (Ev.now _)
  | dd + 1, n, hn => by
    have hw : wrap64 ((n : Int) + 1) = ((n + 1 : Nat) : Int) := by unfold wrap64; omega
    obtain ⟨P, h1, h2⟩ := plans_ev n (by omega) f hf
    have hlen : (endsL n f).length ≤ 20000 := Nat.le_trans (ends_len n f) (Nat.le_trans (Nat.pow_le_pow_right (by omega) (show n ≤ 3 by omega)) (show 27 ^ 3 ≤ 20000 by decide))
    have hs := smE_le T f n (by omega)
    have hs2 : n * 20000 ≤ 80000 := Nat.le_trans (Nat.mul_le_mul_right _ (show n ≤ 4 by omega)) (by decide)
    refine Ev.step (f := fun f => _) (fun f => by simp only [spec_CountRopePlans.l0]; rfl) ?_
    refine ev_pos (by omega) (Ev.bind h2 ?_)
    refine cnt_l1 T n f (endsL n f) (by omega) _ (endsL n f).length 0 (smE T f n) (Nat.zero_add _) (by omega) ?_
    rw [List.drop_zero, ← smE_s, hw]
    exact cnt_l0 T f hf dd (n + 1) (by omega)
theorem count_ev (f : Nat → Int) (T : Int) : Ev (fun k => spec_CountRopePlans.f k (f 0) (f 1) (f 2) (f 3) (f 4) (f 5) T) ((if isRopesB f = true then (cntE T 3 f 0 : Int) else 0), isRopesB f) := by
  unfold spec_CountRopePlans.f
  rw [show xL5Good.f (f 0) (f 1) (f 2) (f 3) (f 4) (f 5) = some (isRopesB f) from rfl]
  simp only [Option.bind_some]
  by_cases h : isRopesB f = true
  · refine ev_pos h ?_
    rw [if_pos h, cntE_sum, h]
    exact cnt_l0 T f h 4 0 (by omega)
  · have h' : isRopesB f = false := by simpa using h
    refine ev_neg h ?_
    rw [if_neg h, h']
    exact Ev.now _
def xCountPlans.f (a0_0 a0_1 a0_2 a0_3 a0_4 a0_5 a1 : Int) : Option (Int × Bool) := some ((if isRopesB (v6 a0_0 a0_1 a0_2 a0_3 a0_4 a0_5) = true then (cntE a1 3 (v6 a0_0 a0_1 a0_2 a0_3 a0_4 a0_5) 0 : Int) else 0), isRopesB (v6 a0_0 a0_1 a0_2 a0_3 a0_4 a0_5))
theorem xCountPlans.calls (a0_0 a0_1 a0_2 a0_3 a0_4 a0_5 a1 : Int) (r1 : Int) (r2 : Bool) (w : World) (h : xCountPlans.f a0_0 a0_1 a0_2 a0_3 a0_4 a0_5 a1 = some (r1, r2)) : Calls Try.prog 28 #[.agg #[.int .i64 a0_0, .int .i64 a0_1, .int .i64 a0_2, .int .i64 a0_3, .int .i64 a0_4, .int .i64 a0_5], .int .i64 a1] w fun e w' => e = .returned (.tuple #[.int .i64 r1, .bool r2]) ∧ Below w.heap.size w w' := by
  unfold xCountPlans.f at h
  simp only [Option.some.injEq, Prod.mk.injEq] at h
  obtain ⟨rfl, rfl⟩ := h
  exact countPlans_any (v6 a0_0 a0_1 a0_2 a0_3 a0_4 a0_5) a1 w
def xSpecPlans.f (a0_0 a0_1 a0_2 a0_3 a0_4 a0_5 a1 : Int) : Option (Int × Bool) := xCountPlans.f a0_0 a0_1 a0_2 a0_3 a0_4 a0_5 a1
theorem xSpecPlans.calls (a0_0 a0_1 a0_2 a0_3 a0_4 a0_5 a1 : Int) (r1 : Int) (r2 : Bool) (w : World) (h : xSpecPlans.f a0_0 a0_1 a0_2 a0_3 a0_4 a0_5 a1 = some (r1, r2)) : Calls Try.prog 27 #[.agg #[.int .i64 a0_0, .int .i64 a0_1, .int .i64 a0_2, .int .i64 a0_3, .int .i64 a0_4, .int .i64 a0_5], .int .i64 a1] w fun e w' => e = .returned (.tuple #[.int .i64 r1, .bool r2]) ∧ Below w.heap.size w w' := by
  unfold xSpecPlans.f xCountPlans.f at h
  simp only [Option.some.injEq, Prod.mk.injEq] at h
  obtain ⟨rfl, rfl⟩ := h
  obtain ⟨k, hk⟩ := Ev.rounds (count_ev (v6 a0_0 a0_1 a0_2 a0_3 a0_4 a0_5) a1)
  exact spec_CountRopePlans.calls k _ _ _ _ _ _ _ _ _ w hk
end Go.Proofs.Ytdbnajaimodnmaa
