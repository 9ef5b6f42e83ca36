/- Rope plans: the reference's count, in plain numbers. No statement of the seat is proved here. -/
import Derived.Test.YtdbnajaimodnmaaEachT
import Derived.Test.YtdbnajaimodnmaaEachC
import Derived.Test.YtdbnajaimodnmaaPEv
import Derived.Test.YtdbnajaimodnmaaQPl3
namespace Go.Proofs.Ytdbnajaimodnmaa
open Go.RowKit Go.Proofs.YtdbnajaimodnmaaW.PrintWords Go.Proofs.YtdbnajaimodnmaaW.PrintLast Go.Proofs.Ytdbnajaimodnmaa.QPl
set_option linter.unusedVariables false
set_option linter.unusedSimpArgs false
theorem lit_some : spec_l5Lit.f 30 = some litL := by kernel_rfl
theorem lit_more : ∀ k, spec_l5Lit.f (30 + k) = some litL
  | 0 => lit_some
  | k + 1 => spec_l5Lit.mono (30 + k) litL (lit_more k)
theorem lit_ev : Ev (fun k => spec_l5Lit.f k) litL := ev_at 30 fun k h => by
  obtain ⟨d, rfl⟩ : ∃ d, k = 30 + d := ⟨k - 30, by omega⟩
  exact lit_more d
theorem l5Light_f (f : Nat → Int) (c : Nat) (h : isRopesB f = true) : xL5Light.f (f 0) (f 1) (f 2) (f 3) (f 4) (f 5) (litC c 0) (litC c 1) (litC c 2) = some (ltC f c 0, ltC f c 1, ltC f c 2, ltC f c 3, ltC f c 4, ltC f c 5, litsB f (litC c)) := if_pos h
theorem l5Next_f (f : Nat → Int) (h : isRopesB f = true) : xL5Next.f (f 0) (f 1) (f 2) (f 3) (f 4) (f 5) = some (toldF f) := if_pos h
theorem l5Burn_g (f : Nat → Int) (d : Int) : xL5Burn.f (f 0) (f 1) (f 2) (f 3) (f 4) (f 5) d = some ((burnF f d) 0, (burnF f d) 1, (burnF f d) 2, (burnF f d) 3, (burnF f d) 4, (burnF f d) 5) := rfl
theorem l5Burn_f (f : Nat → Int) (c : Nat) : xL5Burn.f (ltC f c 0) (ltC f c 1) (ltC f c 2) (ltC f c 3) (ltC f c 4) (ltC f c 5) (toldF (ltC f c)) = some (nxC f c 0, nxC f c 1, nxC f c 2, nxC f c 3, nxC f c 4, nxC f c 5) := by
  unfold nxC
  exact l5Burn_g (ltC f c) (toldF (ltC f c))
/-- as many plans as times, none long -/
def Pls (P : List (List S36)) (E : List Int) (b : Nat) : Prop := P.length = E.length ∧ ∀ p ∈ P, p.length ≤ b
theorem Pls.snoc {P : List (List S36)} {E : List Int} {b : Nat} (h : Pls P E b) {p : List S36} (hp : p.length ≤ b) (e : Int) : Pls (P ++ [p]) (E ++ [e]) b := ⟨by simp [h.1], fun q hq => by
  rcases List.mem_append.1 hq with hq | hq
  · exact h.2 q hq
  · rw [List.mem_singleton.1 hq]; exact hp⟩
theorem plans_l1 (n : Nat) (hn : n ≤ 5) (f : Nat → Int) (c : Nat) (hc : c < 27) (d : Int) (P' : List (List S36)) (E' : List Int) (hP : Pls P' E' n) (hE : ∀ e ∈ E', wrap64 (d + e) = d + e) (R : List Int) (hb : E'.length ≤ 1000000) :
    ∀ (dd i : Nat) (X6 : List (List S36)) (X7 : List Int), i + dd = E'.length → Pls X6 X7 (n + 1) → X7.length + dd ≤ 3000000 →
    (∀ X6', Pls X6' (X7 ++ (E'.drop i).map (d + ·)) (n + 1) → ∃ P, Pls P R (n + 1) ∧ Ev (fun k => spec_l5Plans.l0 k ((n + 1 : Nat) : Int) X6' (X7 ++ (E'.drop i).map (d + ·)) litL ((c + 1 : Nat) : Int) (f 0) (f 1) (f 2) (f 3) (f 4) (f 5)) (P, R)) →
    ∃ P, Pls P R (n + 1) ∧ Ev (fun k => spec_l5Plans.l1 k ((n + 1 : Nat) : Int) X6 X7 litL (c : Int) d P' E' (i : Int) (f 0) (f 1) (f 2) (f 3) (f 4) (f 5)) (P, R)
  | 0, i, X6, X7, hi, hX, hl, hG => by
    have hw : wrap64 ((c : Int) + 1) = ((c + 1 : Nat) : Int) := by unfold wrap64; omega
    obtain rfl : i = E'.length := by omega
    rw [List.drop_length, List.map_nil, List.append_nil] at hG
    obtain ⟨P, h1, h2⟩ := hG X6 hX
    refine ⟨P, h1, Ev.step (f := fun f => _) (fun f => by simp only [spec_l5Plans.l1]; rfl) ?_⟩
    refine ev_neg (by rw [hP.1]; omega) ?_
    rw [hw]
    exact h2
  | dd + 1, i, X6, X7, hi, hX, hl, hG => by
    have hw : wrap64 ((i : Int) + 1) = ((i + 1 : Nat) : Int) := by unfold wrap64; omega
    have hil : i < E'.length := by omega
    have hip : i < P'.length := by rw [hP.1]; exact hil
    have hr : rd E' (i : Int) = E'[i] := by simp [rd, List.getD_eq_getElem?_getD, List.getElem?_eq_getElem hil]
    have hr4 : rd_L4 P' (i : Int) = P'[i] := by simp [rd_L4, List.getD_eq_getElem?_getD, List.getElem?_eq_getElem hip]
    have hp := hP.2 _ (List.getElem_mem hip)
    obtain ⟨P, h1, h2⟩ := plans_l1 n hn f c hc d P' E' hP hE R hb dd (i + 1) (X6 ++ [[litL.getD c z36] ++ P'[i]]) (X7 ++ [d + E'[i]]) (by omega) (hX.snoc (by simp; omega) _) (by simp; omega) (fun X6' h => by
      have e : X7 ++ [d + E'[i]] ++ (E'.drop (i + 1)).map (d + ·) = X7 ++ (E'.drop i).map (d + ·) := by
        rw [List.drop_eq_getElem_cons hil, List.map_cons, List.append_assoc]; rfl
      rw [e] at h ⊢
      exact hG X6' h)
    refine ⟨P, h1, Ev.step (f := fun f => _) (fun f => by simp only [spec_l5Plans.l1]; rfl) ?_⟩
    refine ev_pos (by rw [hP.1]; omega) (ev_pos (by omega) (ev_pos (by rw [litL_len]; omega) ?_))
    simp only [Option.bind_some]
    rw [hr, hr4, hw, hE _ (List.getElem_mem hil)]
    have h6 : X6.length = X7.length := hX.1
    refine ev_pos (by omega) (ev_pos (by simp; omega) (ev_pos (by omega) (ev_pos (by omega) (ev_pos (by omega) ?_))))
    have el : (⟨(rd_T36 litL (c : Int)).f0, (rd_T36 litL (c : Int)).f1, (rd_T36 litL (c : Int)).f2⟩ : S36) = litL.getD c z36 := by simp [rd_T36]
    rw [el]
    exact h2
/-- the last times of the plans that begin with one lighting -/
def con (n : Nat) (f : Nat → Int) (c : Nat) : List Int := if okC f c = true then (endsL n (nxC f c)).map (toldF (ltC f c) + ·) else []
theorem plans_l0 (n : Nat) (hn : n ≤ 3) (f : Nat → Int) (hf : isRopesB f = true) (ih : ∀ g, isRopesB g = true → ∃ P, Pls P (endsL n g) n ∧ Ev (fun k => spec_l5Plans.f k (g 0) (g 1) (g 2) (g 3) (g 4) (g 5) (n : Int)) (P, endsL n g)) :
    ∀ (dd c : Nat) (X6 : List (List S36)) (X7 : List Int), c + dd = 27 → Pls X6 X7 (n + 1) → X7.length + dd * 20000 ≤ 1000000 →
    ∃ P, Pls P (X7 ++ efS (con n f) dd c) (n + 1) ∧ Ev (fun k => spec_l5Plans.l0 k ((n + 1 : Nat) : Int) X6 X7 litL (c : Int) (f 0) (f 1) (f 2) (f 3) (f 4) (f 5)) (P, X7 ++ efS (con n f) dd c)
  | 0, c, X6, X7, hc, hX, hl => by
    refine ⟨X6, by simpa [efS] using hX, Ev.step (f := fun f => _) (fun f => by simp only [spec_l5Plans.l0]; rfl) ?_⟩
    refine ev_neg (by rw [litL_len]; omega) ?_
    rw [show efS (con n f) 0 c = [] from rfl, List.append_nil]
    exact Ev.now _
  | dd + 1, c, X6, X7, hc, hX, hl => by
    have hl' : X7.length + dd * 20000 ≤ 1000000 := Nat.le_trans (Nat.add_le_add_left (Nat.mul_le_mul_right _ (Nat.le_succ dd)) _) hl
    have hw : wrap64 ((c : Int) + 1) = ((c + 1 : Nat) : Int) := by unfold wrap64; omega
    have hwn : wrap64 (((n + 1 : Nat) : Int) - 1) = (n : Int) := by unfold wrap64; omega
    have hat : rd_T36 litL (c : Int) = ⟨litC c 0, litC c 1, litC c 2⟩ := litL_at (by omega)
    have hL := l5Light_f f c hf
    have hN := l5Next_f (ltC f c) (ltC_rope hf c)
    have skip : okC f c = false → ∃ P, Pls P (X7 ++ efS (con n f) (dd + 1) c) (n + 1) ∧ Ev (fun k => spec_l5Plans.l0 k ((n + 1 : Nat) : Int) X6 X7 litL ((c + 1 : Nat) : Int) (f 0) (f 1) (f 2) (f 3) (f 4) (f 5)) (P, X7 ++ efS (con n f) (dd + 1) c) := fun q => by
      have e : con n f c = [] := by unfold con; rw [q]; rfl
      rw [efS_succ, e, List.nil_append]
      exact plans_l0 n hn f hf ih dd (c + 1) X6 X7 (by omega) hX hl'
    have told := Rope.told (rope_of (ltC_rope hf c))
    by_cases q : okC f c = true
    · have nx := nxC_rope hf q
      obtain ⟨P', hP', hE'⟩ := ih (nxC f c) nx
      have e : con n f c = (endsL n (nxC f c)).map (toldF (ltC f c) + ·) := if_pos q
      have hlen : (endsL n (nxC f c)).length ≤ 20000 := Nat.le_trans (ends_len n _) (Nat.le_trans (Nat.pow_le_pow_right (by omega) hn) (show 27 ^ 3 ≤ 20000 by decide))
      have hbig : ∀ e ∈ endsL n (nxC f c), wrap64 (toldF (ltC f c) + e) = toldF (ltC f c) + e := fun e he => by
        have := ends_big n _ nx e he
        exact wrap_id (by omega) (by omega)
      obtain ⟨P, h1, h2⟩ := plans_l1 n (by omega) f c (by omega) (toldF (ltC f c)) P' _ hP' hbig (X7 ++ efS (con n f) (dd + 1) c) (by omega) (endsL n (nxC f c)).length 0 X6 X7 (by omega) hX (by omega) (fun X6' h => by
        rw [List.drop_zero] at h ⊢
        rw [efS_succ, ← List.append_assoc, e]
        refine plans_l0 n hn f hf ih dd (c + 1) X6' _ (by omega) h ?_
        rw [List.length_append, List.length_map]
        omega)
      refine ⟨P, h1, Ev.step (f := fun f => _) (fun f => by simp only [spec_l5Plans.l0]; rfl) ?_⟩
      refine ev_pos (by rw [litL_len]; omega) (ev_pos (by omega) ?_)
      rw [hat, hL]
      simp only [Option.bind_some]
      refine ev_pos (okC_parts.1 q).1 ?_
      rw [hN]
      simp only [Option.bind_some]
      refine Ev.step (f := fun f => _) (fun f => by simp only [spec_l5Plans.j1]; rfl) ?_
      refine ev_neg (by have := (okC_parts.1 q).2; simp; omega) ?_
      rw [hN]
      simp only [Option.bind_some]
      rw [l5Burn_f]
      simp only [Option.bind_some]
      rw [hwn]
      exact Ev.bind hE' h2
    · have q' : okC f c = false := by simpa using q
      obtain ⟨P, h1, h2⟩ := skip q'
      refine ⟨P, h1, Ev.step (f := fun f => _) (fun f => by simp only [spec_l5Plans.l0]; rfl) ?_⟩
      refine ev_pos (by rw [litL_len]; omega) (ev_pos (by omega) ?_)
      rw [hat, hL]
      simp only [Option.bind_some]
      by_cases u : litsB f (litC c) = true
      · refine ev_pos u ?_
        rw [hN]
        simp only [Option.bind_some]
        refine Ev.step (f := fun f => _) (fun f => by simp only [spec_l5Plans.j1]; rfl) ?_
        refine ev_pos (by
          have : ¬ 0 < toldF (ltC f c) := fun z => q (okC_parts.2 ⟨u, z⟩)
          simp; omega) ?_
        rw [hw]
        exact h2
      · refine ev_neg u ?_
        refine Ev.step (f := fun f => _) (fun f => by simp only [spec_l5Plans.j1]; rfl) ?_
        refine ev_pos trivial ?_
        rw [hw]
        exact h2
theorem plans_ev : ∀ (n : Nat), n ≤ 3 → ∀ f, isRopesB f = true → ∃ P, Pls P (endsL n f) n ∧ Ev (fun k => spec_l5Plans.f k (f 0) (f 1) (f 2) (f 3) (f 4) (f 5) (n : Int)) (P, endsL n f)
  | 0, hn, f, hf => by
    refine ⟨[[]], ⟨rfl, by simp⟩, Ev.step (f := fun f => _) (fun f => by simp only [spec_l5Plans.f]; rfl) ?_⟩
    simp only [Option.bind_some]
    refine ev_pos (by simp) (ev_pos (by simp) (ev_pos (by simp) ?_))
    exact Ev.now _
  | n + 1, hn, f, hf => by
    obtain ⟨P, h1, h2⟩ := plans_l0 n (by omega) f hf (fun g hg => plans_ev n (by omega) g hg) 27 0 [] [] (by omega) ⟨rfl, by simp⟩ (by simp)
    refine ⟨P, h1, Ev.step (f := fun f => _) (fun f => by simp only [spec_l5Plans.f]; rfl) ?_⟩
    simp only [Option.bind_some]
    refine ev_neg (by omega) ?_
    exact Ev.bind lit_ev h2
end Go.Proofs.Ytdbnajaimodnmaa
