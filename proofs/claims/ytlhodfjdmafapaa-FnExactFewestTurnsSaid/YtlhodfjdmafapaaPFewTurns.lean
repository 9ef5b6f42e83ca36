/- FewestTurns: the plain law. No statement of the seat is proved here. -/
import Derived.Test.YtlhodfjdmafapaaMPure
import Derived.Test.YtlhodfjdmafapaaQAll8
namespace Go.Proofs.Ytlhodfjdmafapaa
open Go.RowKit Go.Proofs.YtlhodfjdmafapaaW.PrintWords Go.Proofs.YtlhodfjdmafapaaW.PrintLast Go.Proofs.Ytlhodfjdmafapaa.QAll
set_option linter.unusedVariables false
set_option linter.unusedSimpArgs false
def tminL (time : Int) (u : Int) (L : List Ent) : Int := L.foldl (fun x e => if e.1.2 = time then tmin x e.2.2 else x) u
theorem tell_t_same (time : Int) (n : Nat) : ∀ (L : List Ent) (B : Best), (L.foldl (tellStep time n) B).turns = tminL time B.turns L
  | [], B => rfl
  | e :: r, B => by
    have hs : tminL time B.turns (e :: r) = tminL time (if e.1.2 = time then tmin B.turns e.2.2 else B.turns) r := rfl
    rw [List.foldl_cons, tell_t_same time n r, hs]
    congr 1
    unfold tellStep
    by_cases h : e.1.2 = time
    · rw [if_pos h, if_pos h]
    · rw [if_neg h, if_neg h]
section
variable (a b c d : Int) (s : Sd) (time : Int) (h : searchB (v4 a b c d) s time = true)
include h
theorem turns_l1 (n : Nat) (hn : n < 13) (r : Int × Bool) (hK : Ev (fun f => spec_FewestTurns.l0 f time (tellTo (v4 a b c d) s time (n + 1)).turns ((List.range 13).map (levS (v4 a b c d) time s)) ((n + 1 : Nat) : Int)) r) :
    ∀ (dd i : Nat) (u : Int), i + dd = (levP (v4 a b c d) time s n).length → tminL time u ((levP (v4 a b c d) time s n).drop i) = (tellTo (v4 a b c d) s time (n + 1)).turns →
    Ev (fun f => spec_FewestTurns.l1 f time u ((List.range 13).map (levS (v4 a b c d) time s)) (n : Int) (i : Int)) r
  | 0, i, u, hi, hu => by
    have hrd : rd_L6 ((List.range 13).map (levS (v4 a b c d) time s)) (n : Int) = (levP (v4 a b c d) time s n).map (toS true) := by
      simp [rd_L6, levS, List.getD_eq_getElem?_getD, List.getElem?_range hn]
    have hw : wrap64 ((n : Int) + 1) = ((n + 1 : Nat) : Int) := by unfold wrap64; omega
    refine Ev.step (f := fun f => _) (fun f => by simp only [spec_FewestTurns.l1]; rfl) ?_
    refine ev_pos (by omega) (ev_pos (by simp; omega) ?_)
    rw [hrd]
    refine ev_neg (by rw [List.length_map]; omega) ?_
    rw [List.drop_eq_nil_of_le (by omega)] at hu
    have hu' : u = (tellTo (v4 a b c d) s time (n + 1)).turns := hu
    rw [hw, hu']
    exact hK
  | dd + 1, i, u, hi, hu => by
    have hlen := lev_len a b c d s time h n
    have hrd : rd_L6 ((List.range 13).map (levS (v4 a b c d) time s)) (n : Int) = (levP (v4 a b c d) time s n).map (toS true) := by
      simp [rd_L6, levS, List.getD_eq_getElem?_getD, List.getElem?_range hn]
    have hw : wrap64 ((i : Int) + 1) = ((i + 1 : Nat) : Int) := by unfold wrap64; omega
    have hil : i < (levP (v4 a b c d) time s n).length := by omega
    have hrd2 : rd_T83 ((levP (v4 a b c d) time s n).map (toS true)) (i : Int) = toS true (levP (v4 a b c d) time s n)[i] := by
      simp [rd_T83, List.getD_eq_getElem?_getD, List.getElem?_eq_getElem hil]
    refine Ev.step (f := fun f => _) (fun f => by simp only [spec_FewestTurns.l1]; rfl) ?_
    refine ev_pos (by omega) (ev_pos (by simp; omega) ?_)
    rw [hrd]
    refine ev_pos (by rw [List.length_map]; omega) (ev_pos (by omega) ?_)
    rw [hrd2, hw]
    rw [List.drop_eq_getElem_cons hil, tminL, List.foldl_cons] at hu
    by_cases q : (levP (v4 a b c d) time s n)[i].1.2 = time
    · refine ev_pos q ?_
      rw [if_pos q] at hu
      have hu2 : tminL time (tmin u (levP (v4 a b c d) time s n)[i].2.2) ((levP (v4 a b c d) time s n).drop (i + 1)) = (tellTo (v4 a b c d) s time (n + 1)).turns := hu
      have IH := turns_l1 n hn r hK dd (i + 1) _ (by omega) hu2
      by_cases q1 : u < 0
      · refine ev_pos q1 ?_
        rw [show tmin u (levP (v4 a b c d) time s n)[i].2.2 = (levP (v4 a b c d) time s n)[i].2.2 from if_pos q1] at IH
        exact IH
      · refine ev_neg q1 ?_
        by_cases q2 : (levP (v4 a b c d) time s n)[i].2.2 < u
        · refine ev_pos q2 ?_
          rw [show tmin u (levP (v4 a b c d) time s n)[i].2.2 = (levP (v4 a b c d) time s n)[i].2.2 from (if_neg q1).trans (if_pos q2)] at IH
          exact IH
        · refine ev_neg q2 ?_
          rw [show tmin u (levP (v4 a b c d) time s n)[i].2.2 = u from (if_neg q1).trans (if_neg q2)] at IH
          exact IH
    · refine ev_neg q ?_
      rw [if_neg q] at hu
      exact turns_l1 n hn r hK dd (i + 1) u (by omega) hu
theorem turns_l0 (r : Int × Bool) (hr : r = (if (tellTo (v4 a b c d) s time 13).turns < 0 then 0 else (tellTo (v4 a b c d) s time 13).turns, decide (0 ≤ (tellTo (v4 a b c d) s time 13).turns))) :
    ∀ (dd n : Nat), n + dd = 13 → Ev (fun f => spec_FewestTurns.l0 f time (tellTo (v4 a b c d) s time n).turns ((List.range 13).map (levS (v4 a b c d) time s)) (n : Int)) r
  | 0, n, hn => by
    refine Ev.step (f := fun f => _) (fun f => by simp only [spec_FewestTurns.l0]; rfl) ?_
    refine ev_neg (by simp; omega) ?_
    rw [show n = 13 by omega, hr]
    obtain ⟨u, hu⟩ : ∃ u, (tellTo (v4 a b c d) s time 13).turns = u := ⟨_, rfl⟩
    rw [hu]
    unfold spec_l1Most.f
    by_cases q : u < 0
    · rw [if_pos q, if_neg (by omega)]
      exact Ev.now _
    · rw [if_neg q]
      by_cases z : 0 < u
      · rw [if_pos (by omega)]; exact Ev.now _
      · rw [if_neg (by omega), show u = 0 by omega]; exact Ev.now _
  | dd + 1, n, hn => by
    refine Ev.step (f := fun f => _) (fun f => by simp only [spec_FewestTurns.l0]; rfl) ?_
    refine ev_pos (by simp; omega) ?_
    exact turns_l1 a b c d s time h n (by omega) r (turns_l0 r hr dd (n + 1) (by omega)) (levP (v4 a b c d) time s n).length 0 _ (by omega) (by
      rw [List.drop_zero, tellTo]
      exact (tell_t_same time n _ _).symm)
end
theorem fewestTurns_law (a0_0 a0_1 a0_2 a0_3 a1_0 a1_1 a1_2 a1_3 a2 : Int) : ∃ k, laws_FnExactFewestTurns.f k a0_0 a0_1 a0_2 a0_3 a1_0 a1_1 a1_2 a1_3 a2 = some true := by
  refine Ev.rounds ?_
  have hg := good_f a0_0 a0_1 a0_2 a0_3 (a1_0, a1_1, a1_2, a1_3) a2
  have key : ∃ x ok, Ev (fun f => spec_FewestTurns.f f a0_0 a0_1 a0_2 a0_3 a1_0 a1_1 a1_2 a1_3 a2) (x, ok) ∧ xFewTurns.f a0_0 a0_1 a0_2 a0_3 a1_0 a1_1 a1_2 a1_3 a2 = some (x, ok) := by
    unfold spec_FewestTurns.f xFewTurns.f
    simp only at hg
    rw [hg]
    simp only [Option.bind_some]
    cases h : searchB (v4 a0_0 a0_1 a0_2 a0_3) (a1_0, a1_1, a1_2, a1_3) a2
    · exact ⟨0, false, ev_neg (by simp) (Ev.now _), if_neg (by simp)⟩
    · refine ⟨_, _, ev_pos rfl (Ev.bind (levels_ev a0_0 a0_1 a0_2 a0_3 (a1_0, a1_1, a1_2, a1_3) a2 h) (turns_l0 a0_0 a0_1 a0_2 a0_3 (a1_0, a1_1, a1_2, a1_3) a2 h _ rfl 13 0 (by omega))), if_pos rfl⟩
  obtain ⟨x, ok, h1, h2⟩ := key
  unfold laws_FnExactFewestTurns.f
  rw [show xToKit.f a0_0 a0_1 a0_2 a0_3 = some (a0_0, a0_1, a0_2, a0_3) from rfl, show xToIntA4.f a1_0 a1_1 a1_2 a1_3 = some (a1_0, a1_1, a1_2, a1_3) from rfl]
  simp only [Option.bind_some]
  refine Ev.bind h1 ?_
  rw [h2]
  simp only [Option.bind_some]
  exact ev_pos (by trivial) (ev_neg (by simp) (Ev.now _))
end Go.Proofs.Ytlhodfjdmafapaa
