/- FnSplitJoin (Door seat): the plain law and the law's walk. No statement of the seat is proved here. -/
import Derived.Test.YtidnebhdjkdofaaDoorSplitW
import Derived.Test.YtidnebhdjkdofaaDoorDraw
import Derived.Test.YtidnebhdjkdofaaDoorPJoinD
namespace Go.Proofs.YtidnebhdjkdofaaDoor
open Go.RowKit Go.Proofs.YtidnebhdjkdofaaDoorW.PrintWords Go.Proofs.YtidnebhdjkdofaaDoorW.PrintLast Go.Proofs.YtidnebhdjkdofaaDoor.QDr Go.Proofs.YtidnebhdjkdofaaDoor.QJn
set_option linter.unusedVariables false
set_option linter.unusedSimpArgs false
theorem less_asym : ∀ x y : List UInt8, Op.bytesLess x y = true → Op.bytesLess y x = false
  | [], [], h => by simp [Op.bytesLess] at h
  | [], _ :: _, _ => by simp [Op.bytesLess]
  | _ :: _, [], h => by simp [Op.bytesLess] at h
  | a :: x, b :: y, h => by
    simp only [Op.bytesLess, Bool.or_eq_true, Bool.and_eq_true, decide_eq_true_eq, beq_iff_eq] at h
    simp only [Op.bytesLess, Bool.or_eq_false_iff, Bool.and_eq_false_iff, decide_eq_false_iff_not]
    rcases h with h | ⟨rfl, h⟩
    · have h1 := UInt8.lt_iff_toNat_lt.1 h
      refine ⟨fun g => by have := UInt8.lt_iff_toNat_lt.1 g; omega, Or.inl ?_⟩
      rw [beq_eq_false_iff_ne]
      rintro rfl; omega
    · exact ⟨fun g => UInt8.lt_irrefl _ g, Or.inr (less_asym x y h)⟩
/-- the parts put together again -/
def jnS (c : UInt8) : List (List UInt8) → List UInt8
  | [] => []
  | [x] => x
  | x :: y :: r => x ++ c :: jnS c (y :: r)
theorem jnS_spA (c : UInt8) : ∀ (l acc : List UInt8), jnS c (spA c acc l) = acc ++ l
  | [], acc => by simp [spA, jnS]
  | b :: r, acc => by
    by_cases q : b = c
    · subst q
      obtain ⟨t, e⟩ := spA_head b r []
      have ih := jnS_spA b r []
      rw [e] at ih
      rw [spA, if_pos rfl, e, jnS, ih]; rfl
    · rw [spA, if_neg q, jnS_spA c r]; simp
theorem jnS_push (c : UInt8) (a x : List UInt8) (r : List (List UInt8)) : jnS c ((a ++ x) :: r) = a ++ jnS c (x :: r) := by
  cases r with
  | nil => rfl
  | cons y r => rw [jnS, jnS, List.append_assoc]
theorem joinGo_jnS (c : UInt8) : ∀ (r : List ByteArray) (acc : ByteArray), (joinGo ⟨#[c]⟩ r acc).data.toList = jnS c (acc.data.toList :: r.map (·.data.toList))
  | [], acc => rfl
  | p :: r, acc => by
    rw [joinGo, joinGo_jnS c r, bytes_append, bytes_append, one_list, List.map_cons, jnS, List.append_assoc, jnS_push, jnS_push c [c]]
    rfl
theorem parts_join (c : UInt8) (s : ByteArray) : joinB ⟨#[c]⟩ (parts c s) = s := by
  obtain ⟨t, e⟩ := spA_head c s.data.toList []
  have h := jnS_spA c s.data.toList []
  rw [e] at h
  unfold parts
  rw [e, List.map_cons, joinB]
  rw [← bytes_self (joinGo _ _ _), joinGo_jnS, mkB_list, List.map_map, show ((fun x : ByteArray => x.data.toList) ∘ mkB) = id from funext fun l => mkB_list l, List.map_id, h]
  exact bytes_self s
theorem spA_no (c : UInt8) : ∀ (l acc : List UInt8), acc.contains c = false → ∀ x ∈ spA c acc l, x.contains c = false ∧ x.length ≤ acc.length + l.length
  | [], acc, h, x, hx => by
    rw [spA, List.mem_singleton] at hx
    rw [hx]; exact ⟨h, by simp⟩
  | b :: r, acc, h, x, hx => by
    rw [spA] at hx
    by_cases q : b = c
    · rw [if_pos q] at hx
      rcases List.mem_cons.1 hx with e | e
      · rw [e]; exact ⟨h, by simp⟩
      · obtain ⟨h1, h2⟩ := spA_no c r [] rfl x e
        exact ⟨h1, by simp only [List.length_nil, List.length_cons] at *; omega⟩
    · rw [if_neg q] at hx
      obtain ⟨h1, h2⟩ := spA_no c r (acc ++ [b]) (by
        rw [List.contains_eq_any_beq, List.any_append, ← List.contains_eq_any_beq, h]
        simp; exact fun e => q e.symm) x hx
      exact ⟨h1, by simp only [List.length_append, List.length_cons, List.length_nil] at *; omega⟩
theorem parts_ok (c : UInt8) (s : ByteArray) : (∀ x ∈ parts c s, x.data.toList.contains c = false ∧ x.size ≤ s.size) ∧ Jn.okAll c (parts c s) = true := by
  have h : ∀ x ∈ parts c s, x.data.toList.contains c = false ∧ x.size ≤ s.size := by
    intro x hx
    obtain ⟨l, hl, rfl⟩ := List.mem_map.1 hx
    obtain ⟨h1, h2⟩ := spA_no c _ [] rfl l hl
    rw [mkB_list, mkB_size, ← bytes_len s]
    exact ⟨h1, by simpa using h2⟩
  refine ⟨h, ?_⟩
  unfold Jn.okAll
  rw [List.all_eq_true]
  intro x hx
  unfold Jn.hasB
  rw [(h x hx).1]; rfl
theorem back_any (c : UInt8) (s : ByteArray) (hs : s.size ≤ 4000) : ∃ k, impl_JoinStrings.f k (parts c s) ⟨#[c]⟩ = some (s, true) := by
  have hp := parts_le c s
  have ho := parts_ok c s
  obtain ⟨js, jo, _, e2, e3⟩ := Jn.join_both (parts c s) ⟨#[c]⟩ (by omega) (fun j hj => by
    rw [List.getD_eq_getElem?_getD, List.getElem?_eq_getElem hj]
    have := (ho.1 _ (List.getElem_mem hj)).2
    simp only [Option.getD_some]; omega)
  obtain ⟨t, e⟩ := spA_head c s.data.toList []
  have ep : parts c s = mkB ([] ++ fstP c s.data.toList) :: t.map mkB := by unfold parts; rw [e]; rfl
  have e4 := e3 c _ _ rfl ep
  rw [← ep, parts_join, ho.2, decide_eq_true hs] at e4
  rw [e4] at e2
  exact Ev.rounds e2
theorem getD_le {L : List ByteArray} {b : Nat} (h : ∀ x ∈ L, x.size ≤ b) : ∀ j, j < L.length → (L.getD j ByteArray.empty).size ≤ b := by
  intro j hj
  rw [List.getD_eq_getElem?_getD, List.getElem?_eq_getElem hj]
  exact h _ (List.getElem_mem hj)
set_option maxHeartbeats 6400000 in
set_option maxRecDepth 100000 in
theorem lawSJ_any (code : List Int) (hc : Bytes code) (A : Option Addr) (cap : Nat) (w : World) (hC : Kd.C (Kd.int .u8) w A code.length code) (hcap : code.length ≤ cap) (hm : ML w) :
    Calls Tryd.prog 7 #[.slice A code.length cap] w fun e w' => e = .returned (.bool true) ∧ Below w.heap.size w w' := by
  have hV := laws_vBig.calls A cap code _ w hC hcap rfl
  have hDS := fun W (hb : Below w.heap.size w W) => drawSplit_any hc A cap W (Kd.C_below hC hb)
  have hDJ := fun W (hb : Below w.heap.size w W) => drawJoin_any hc A cap W (Kd.C_below hC hb)
  have hDL := fun W (hb : Below w.heap.size w W) => drawLess_any hc A cap W (Kd.C_below hC hb)
  have hIS := fun s sep W (hb : Below w.heap.size w W) => implSplit_any s sep W (ml_keep hm hb)
  have hLI := fun x y W => impl_LessString.calls x y _ W rfl
  have hLS := fun x y W => spec_LessString.calls x y _ W rfl
  clear hC hcap hm
  generalize decide ((code.length : Int) > 65536) = big at hV
  cases big
  · go_enter Tryd.func7, Tryd.ntmps7
    go_wp2_with fail
    refine hV.mono ?_
    rintro e w0 ⟨rfl, ⟨nd, rfl⟩⟩
    have HB0 := Aside0.mk (show Below w.heap.size w (w.drewN nd) from Drawn0.below ⟨nd, rfl⟩)
    clear hV
    go_wp2_with fail
    refine (hDS _ HB0.out).mono ?_
    rintro e w1 ⟨s, sep, hs, hsep, rfl, hb⟩
    have HB1 := Aside0.mk (HB0.out.trans (hb.mono HB0.out.size))
    have HS := Aside0.mk hs
    clear hDS hb hs hsep HB0
    go_wp2_with fail
    refine (hIS s sep _ HB1.out).mono ?_
    rintro e w2 ⟨v1, rfl, hR1, hb⟩
    have HR1 := Aside0.mk hR1
    have HB2 := Aside0.mk (below_chain HB1.out hb)
    clear hIS hb hR1 HB1
    go_wp2_with fail
    refine (hDJ _ HB2.out).mono ?_
    rintro e w3 ⟨v2, L2, mark, hl2, hx2, hmk, rfl, hR2, hb⟩
    obtain ⟨A2, c2, rfl, hc2, hC2⟩ := Kd.R_reads hR2
    obtain ⟨js, jo, e1, e2, _⟩ := Jn.join_both L2 mark (by omega) (fun j hj => Nat.le_trans (getD_le hx2 j hj) (by omega))
    obtain ⟨k1, h1⟩ := Ev.rounds e1
    obtain ⟨k2, h2⟩ := Ev.rounds e2
    have HC2 := Aside0.mk hC2
    have HG2 := Aside0.mk hc2
    have HR3 := Aside0.mk (Kd.R_below HR1.out hb)
    have HB3 := Aside0.mk (below_chain HB2.out hb)
    have hJ := impl_JoinStrings.calls k2 A2 c2 L2 mark js jo w3 hC2 hc2 h2
    have hJ2 := fun W (hb : Below w3.heap.size w3 W) => spec_JoinStrings.calls k1 A2 c2 L2 mark js jo W (Kd.C_below HC2.out hb) HG2.out h1
    clear hDJ hb hR2 hC2 hc2 hl2 hx2 hmk h1 h2 e1 e2 HR1 HB2
    go_wp2_with fail
    refine hJ.mono ?_
    rintro e w4 ⟨rfl, hb⟩
    have HR4 := Aside0.mk (Kd.R_below HR3.out hb)
    have HB4 := Aside0.mk (below_chain HB3.out hb)
    have hJ3 := hJ2 _ hb
    clear hJ hJ2 hb HR3 HB3
    go_wp2_with fail
    refine hJ3.mono ?_
    rintro e w5 ⟨rfl, hd⟩
    have hb := Drawn0.below hd
    clear hd
    have HR5 := Aside0.mk (Kd.R_below HR4.out hb)
    have HB5 := Aside0.mk (below_chain HB4.out hb)
    clear hJ3 hb HR4 HB4
    go_wp2_with fail
    refine (hDL _ HB5.out).mono ?_
    rintro e w6 ⟨a, b, rfl, hb⟩
    have HR6 := Aside0.mk (Kd.R_below HR5.out hb)
    have HB6 := Aside0.mk (below_chain HB5.out hb)
    clear hDL hb HR5 HB5
    have hpq := less_asym a.toList b.toList
    have hLI1 := hLI a b
    have hLI2 := hLI b a
    have hLS1 := hLS a b
    clear hLI hLS
    generalize Op.bytesLess a.toList b.toList = p at hpq hLI1 hLS1
    generalize Op.bytesLess b.toList a.toList = q at hpq hLI2
    by_cases a1 : sep.size = 1
    · obtain ⟨c, rfl⟩ := Lib.one_byte sep a1
      have er : spR s ⟨#[c]⟩ = (parts c s, true) := by
        unfold spR
        rw [decide_eq_true a1, decide_eq_true (show s.size ≤ 4000 by have := HS.out; omega)]; rfl
      have o : (⟨#[c]⟩ : ByteArray).size = 1 := rfl
      obtain ⟨k3, h3⟩ := back_any c s (by have := HS.out; omega)
      rw [er] at HR6
      simp only [er]
      obtain ⟨A1, c1, rfl, hc1, hC1⟩ := Kd.R_reads HR6.out
      have HC1 := Aside0.mk hC1
      have hJB := fun W (hb : Below w6.heap.size w6 W) => impl_JoinStrings.calls k3 A1 c1 (parts c s) ⟨#[c]⟩ s true W (Kd.C_below HC1.out hb) hc1 h3
      clear hC1 hc1 h3 er a1 HR6
      generalize parts c s = L1 at hJB HC1
      cases p
      · go_wp2_with (first | (go_at_call 29; first | (refine (hLI1 _).mono ?_; rintro e w' ⟨rfl, ⟨nd, rfl⟩⟩) | (refine (hLI2 _).mono ?_; rintro e w' ⟨rfl, ⟨nd, rfl⟩⟩)) | (go_at_call 30; refine (hLS1 _).mono ?_; rintro e w' ⟨rfl, ⟨nd2, rfl⟩⟩) | fail)
        refine (hJB _ (Drawn0.below ⟨_, rfl⟩)).mono ?_
        rintro e w7 ⟨rfl, hb⟩
        have HB7 := Aside0.mk (below_chain (bl_drewN _ HB6.out) hb)
        clear hb hJB HB6
        go_wp2_with fail
        go_ret
        exact ⟨rfl, HB7.out⟩
      · obtain rfl := hpq rfl
        go_wp2_with (first | (go_at_call 29; first | (refine (hLI1 _).mono ?_; rintro e w' ⟨rfl, ⟨nd, rfl⟩⟩) | (refine (hLI2 _).mono ?_; rintro e w' ⟨rfl, ⟨nd, rfl⟩⟩)) | (go_at_call 30; refine (hLS1 _).mono ?_; rintro e w' ⟨rfl, ⟨nd2, rfl⟩⟩) | fail)
        refine (hJB _ (Drawn0.below ⟨_, rfl⟩)).mono ?_
        rintro e w7 ⟨rfl, hb⟩
        have HB7 := Aside0.mk (below_chain (bl_drewN _ HB6.out) hb)
        clear hb hJB HB6
        go_wp2_with fail
        go_ret
        exact ⟨rfl, HB7.out⟩
    · have er : spR s sep = ([], false) := by
        unfold spR
        rw [decide_eq_false a1]; rfl
      have d3 : decide ((sep.size : Int) = 1) = false := decide_eq_false (by omega)
      have d4 : ((sep.size : Int) != 1) = true := by simp; omega
      have d5 : (sep.size != 1) = true := by simp; omega
      have d6 : (sep.size == 1) = false := by simp; omega
      have d7 : ((sep.size : Int) == 1) = false := by simp; omega
      rw [er] at HR6
      simp only [er]
      obtain ⟨A1, c1, rfl, hc1, hC1⟩ := Kd.R_reads HR6.out
      clear hC1 hc1 er HR6
      simp only [List.length_nil]
      cases p
      · go_wp2_with (first | (go_at_call 29; first | (refine (hLI1 _).mono ?_; rintro e w' ⟨rfl, ⟨nd, rfl⟩⟩) | (refine (hLI2 _).mono ?_; rintro e w' ⟨rfl, ⟨nd, rfl⟩⟩)) | (go_at_call 30; refine (hLS1 _).mono ?_; rintro e w' ⟨rfl, ⟨nd2, rfl⟩⟩) | fail)
        go_ret
        exact ⟨rfl, bl_drewN _ HB6.out⟩
      · obtain rfl := hpq rfl
        go_wp2_with (first | (go_at_call 29; first | (refine (hLI1 _).mono ?_; rintro e w' ⟨rfl, ⟨nd, rfl⟩⟩) | (refine (hLI2 _).mono ?_; rintro e w' ⟨rfl, ⟨nd, rfl⟩⟩)) | (go_at_call 30; refine (hLS1 _).mono ?_; rintro e w' ⟨rfl, ⟨nd2, rfl⟩⟩) | fail)
        go_ret
        exact ⟨rfl, bl_drewN _ HB6.out⟩
  · go_enter Tryd.func7, Tryd.ntmps7
    go_wp2_with (first | (go_at_call 23; refine hV.mono ?_; rintro e w0 ⟨rfl, ⟨nd, rfl⟩⟩) | fail)
    go_ret
    exact ⟨rfl, Drawn0.below ⟨nd, rfl⟩⟩
end Go.Proofs.YtidnebhdjkdofaaDoor
