/- Rope plans: the reference's lists of last times, and how many are the time. No statement of the seat is proved here. -/
import Derived.Test.YtdbnajaimodnmaaEachL
namespace Go.Proofs.Ytdbnajaimodnmaa
open Go.RowKit
set_option linter.unusedVariables false
set_option linter.unusedSimpArgs false
def efS (g : Nat → List Int) : Nat → Nat → List Int
  | 0, c => []
  | d + 1, c => g c ++ efS g d (c + 1)
def endsL : Nat → (Nat → Int) → List Int
  | 0, f => [0]
  | n + 1, f => efS (fun c => if okC f c = true then (endsL n (nxC f c)).map (toldF (ltC f c) + ·) else []) 27 0
theorem efS_succ (g : Nat → List Int) (d c : Nat) : efS g (d + 1) c = g c ++ efS g d (c + 1) := rfl
theorem endsL_succ (n : Nat) (f : Nat → Int) : endsL (n + 1) f = efS (fun c => if okC f c = true then (endsL n (nxC f c)).map (toldF (ltC f c) + ·) else []) 27 0 := rfl
def cntA (T a : Int) (E : List Int) : Nat := E.countP fun e => decide (a + e = T)
theorem cntA_efS (T a : Int) (g : Nat → List Int) : ∀ (d c : Nat), preS (fun i => cntA T a (g i)) (c + d) = preS (fun i => cntA T a (g i)) c + cntA T a (efS g d c)
  | 0, c => by simp [efS, cntA]
  | d + 1, c => by
    have h := cntA_efS T a g d (c + 1)
    rw [show c + (d + 1) = c + 1 + d by omega, h, preS_succ]
    rw [efS_succ, show ∀ A B : List Int, cntA T a (A ++ B) = cntA T a A + cntA T a B from fun A B => List.countP_append]
    omega
theorem cntA_map (T a d : Int) (E : List Int) : cntA T a (E.map (d + ·)) = cntA T (a + d) E := by
  unfold cntA
  rw [List.countP_map]
  congr 1
  funext e
  simp only [Function.comp]
  rw [Int.add_assoc]
theorem preS_congr {S S' : Nat → Nat} (h : ∀ c, S c = S' c) (j : Nat) : preS S j = preS S' j := by rw [funext h]
theorem preS_add (S S' : Nat → Nat) (j : Nat) : preS (fun c => S c + S' c) j = preS S j + preS S' j := by
  induction j with
  | zero => rfl
  | succ j ih => rw [preS_succ, preS_succ, preS_succ, ih]; omega
theorem cnt_ends (T a : Int) (n : Nat) (f : Nat → Int) : cntA T a (endsL (n + 1) f) = preS (fun c => if okC f c = true then cntA T (a + toldF (ltC f c)) (endsL n (nxC f c)) else 0) 27 := by
  have h := cntA_efS T a (fun c => if okC f c = true then (endsL n (nxC f c)).map (toldF (ltC f c) + ·) else []) 27 0
  rw [Nat.zero_add, show preS (fun i => cntA T a (if okC f i = true then (endsL n (nxC f i)).map (toldF (ltC f i) + ·) else [])) 0 = 0 from rfl, Nat.zero_add] at h
  rw [endsL_succ, ← h]
  refine preS_congr (fun c => ?_) 27
  split
  · exact cntA_map _ _ _ _
  · rfl
def sumE (T a : Int) (f : Nat → Int) : Nat → Nat
  | 0 => cntA T a (endsL 0 f)
  | n + 1 => sumE T a f n + cntA T a (endsL (n + 1) f)
theorem cnt_one (T a : Int) (f : Nat → Int) : cntA T a (endsL 0 f) = one T a := by
  unfold cntA endsL one
  rw [List.countP_cons, List.countP_nil, Int.add_zero]
  by_cases h : a = T
  · simp [h]
  · simp [h]
theorem sumE_z (T a : Int) (f : Nat → Int) : sumE T a f 0 = cntA T a (endsL 0 f) := rfl
theorem sumE_s (T a : Int) (f : Nat → Int) (n : Nat) : sumE T a f (n + 1) = sumE T a f n + cntA T a (endsL (n + 1) f) := rfl
theorem sumE_succ (T : Int) (m : Nat) : ∀ (f : Nat → Int) (a : Int), sumE T a f (m + 1) = one T a + preS (fun c => if okC f c = true then sumE T (a + toldF (ltC f c)) (nxC f c) m else 0) 27 := by
  induction m with
  | zero =>
    intro f a
    rw [sumE_s, sumE_z, cnt_ends, cnt_one]
    refine congrArg (one T a + ·) (preS_congr (fun c => ?_) 27)
    by_cases q : okC f c = true
    · rw [if_pos q, if_pos q, sumE_z]
    · rw [if_neg q, if_neg q]
  | succ m ih =>
    intro f a
    rw [sumE_s, ih f a, cnt_ends, Nat.add_assoc, ← preS_add]
    refine congrArg (one T a + ·) (preS_congr (fun c => ?_) 27)
    by_cases q : okC f c = true
    · rw [if_pos q, if_pos q, if_pos q, sumE_s]
    · rw [if_neg q, if_neg q, if_neg q]
theorem cntE_z (T : Int) (f : Nat → Int) (a : Int) : cntE T 0 f a = one T a := rfl
theorem cntE_s (T : Int) (m : Nat) (f : Nat → Int) (a : Int) : cntE T (m + 1) f a = one T a + preS (fun c => if okC f c = true then cntE T m (nxC f c) (a + toldF (ltC f c)) else 0) 27 := rfl
theorem cntE_sum (T : Int) (m : Nat) : ∀ (f : Nat → Int) (a : Int), cntE T m f a = sumE T a f m := by
  induction m with
  | zero => intro f a; rw [sumE_z, cnt_one, cntE_z]
  | succ m ih =>
    intro f a
    rw [sumE_succ, cntE_s]
    refine congrArg (one T a + ·) (preS_congr (fun c => ?_) 27)
    by_cases q : okC f c = true
    · rw [if_pos q, if_pos q, ih]
    · rw [if_neg q, if_neg q]
theorem ends_len : ∀ (n : Nat) (f : Nat → Int), (endsL n f).length ≤ 27 ^ n
  | 0, f => by simp [endsL]
  | n + 1, f => by
    have h : ∀ d c, (efS (fun c => if okC f c = true then (endsL n (nxC f c)).map (toldF (ltC f c) + ·) else []) d c).length ≤ d * 27 ^ n := by
      intro d
      induction d with
      | zero => intro c; simp [efS]
      | succ d ih =>
        intro c
        rw [efS_succ, List.length_append, Nat.succ_mul, Nat.add_comm]
        refine Nat.add_le_add (ih _) ?_
        split
        · rw [List.length_map]; exact ends_len n _
        · exact Nat.zero_le _
    have := h 27 0
    rw [endsL_succ, Nat.pow_succ]
    omega
theorem ends_big : ∀ (n : Nat) (f : Nat → Int), isRopesB f = true → ∀ e ∈ endsL n f, 0 ≤ e ∧ e ≤ 4000 * (n : Int)
  | 0, f, h, e, he => by rw [List.mem_singleton.1 he]; simp
  | n + 1, f, h, e, he => by
    have key : ∀ d c, ∀ e ∈ efS (fun c => if okC f c = true then (endsL n (nxC f c)).map (toldF (ltC f c) + ·) else []) d c, 0 ≤ e ∧ e ≤ 4000 * ((n + 1 : Nat) : Int) := by
      intro d
      induction d with
      | zero => intro c e he; cases he
      | succ d ih =>
        intro c e he
        rw [efS_succ] at he
        rcases List.mem_append.1 he with he | he
        · split at he
          · rename_i q
            obtain ⟨x, hx, rfl⟩ := List.mem_map.1 he
            have h1 := ends_big n _ (nxC_rope h q) x hx
            have h2 := Rope.told (rope_of (ltC_rope h c))
            omega
          · cases he
        · exact ih _ e he
    rw [endsL_succ] at he
    exact key 27 0 e he
end Go.Proofs.Ytdbnajaimodnmaa
