/- ParseKit (Door seat): the plain law and the walks. No statement of the seat is proved here. -/
import Derived.Test.YtidnebhdjkdofaaDoorParseW
import Derived.Test.YtidnebhdjkdofaaDoorSplitW
import Derived.Test.YtidnebhdjkdofaaDoorKitE
import Derived.Test.YtidnebhdjkdofaaDoorWords
namespace Go.Proofs.YtidnebhdjkdofaaDoor
open Go.RowKit Go.Proofs.YtidnebhdjkdofaaDoorW.PrintWords Go.Proofs.YtidnebhdjkdofaaDoorW.PrintLast Go.Proofs.YtidnebhdjkdofaaDoor.QStr
set_option linter.unusedVariables false
set_option linter.unusedSimpArgs false
/-- the parts put together again -/
def jn (c : UInt8) : List (List UInt8) → List UInt8
  | [] => []
  | [x] => x
  | x :: y :: r => x ++ c :: jn c (y :: r)
theorem jn_spA (c : UInt8) : ∀ (l acc : List UInt8), jn c (spA c acc l) = acc ++ l
  | [], acc => by simp [spA, jn]
  | b :: r, acc => by
    by_cases q : b = c
    · subst q
      obtain ⟨t, e⟩ := spA_head b r []
      have ih := jn_spA b r []
      rw [e] at ih
      rw [spA, if_pos rfl, e, jn, ih]; rfl
    · rw [spA, if_neg q, jn_spA c r]; simp
/-- the numbers of four words, and whether they are numbers -/
def kn (wd : Nat → ByteArray) : Nat → Int := fun i => (readR (wd i)).1
def ok4 (wd : Nat → ByteArray) : Bool := (readR (wd 0)).2 && (readR (wd 1)).2 && (readR (wd 2)).2 && (readR (wd 3)).2
def zeroK : Nat → Int := fun _ => 0
def pk4 (wd : Nat → ByteArray) : (Nat → Int) × Bool := bif ok4 wd && isKitB (kn wd) then (kn wd, true) else (zeroK, false)
/-- the kit of a text -/
def pkR (s : ByteArray) : (Nat → Int) × Bool := bif decide ((parts 32 s).length = 4) then pk4 (fun i => (parts 32 s).getD i ByteArray.empty) else (zeroK, false)
theorem four_words {L : List ByteArray} (h : L.length = 4) : L = [(fun i => L.getD i ByteArray.empty) 0, (fun i => L.getD i ByteArray.empty) 1, (fun i => L.getD i ByteArray.empty) 2, (fun i => L.getD i ByteArray.empty) 3] := by
  match L, h with
  | [a, b, c, d], _ => rfl
theorem parts_list (s : ByteArray) : jn 32 ((parts 32 s).map (·.data.toList)) = s.data.toList := by
  unfold parts
  rw [List.map_map, show ((fun x : ByteArray => x.data.toList) ∘ mkB) = id from funext fun l => mkB_list l, List.map_id, jn_spA]; rfl
theorem words_size {s : ByteArray} {wd : Nat → ByteArray} (h : parts 32 s = [wd 0, wd 1, wd 2, wd 3]) : s.size = (wd 0).size + (wd 1).size + (wd 2).size + (wd 3).size + 3 := by
  have := parts_list s
  rw [h] at this
  have := congrArg List.length this
  simp only [List.map_cons, List.map_nil, jn, List.length_append, List.length_cons, bytes_len] at this
  omega
theorem readR_ok {s : ByteArray} (h : (readR s).2 = true) : textB (readR s).1 = s := by
  rcases readR_cases s with e | ⟨v, e, t, _⟩
  · rw [e] at h; cases h
  · rw [e]; exact t
theorem words_text {s : ByteArray} {wd : Nat → ByteArray} (h : parts 32 s = [wd 0, wd 1, wd 2, wd 3]) (h2 : ok4 wd = true) : kitB (kn wd) = s := by
  simp only [ok4, Bool.and_eq_true] at h2
  have e := parts_list s
  rw [h] at e
  have t0 : textB (kn wd 0) = wd 0 := readR_ok h2.1.1.1
  have t1 : textB (kn wd 1) = wd 1 := readR_ok h2.1.1.2
  have t2 : textB (kn wd 2) = wd 2 := readR_ok h2.1.2
  have t3 : textB (kn wd 3) = wd 3 := readR_ok h2.2
  unfold kitB
  rw [t0, t1, t2, t3, empty_append]
  rw [← bytes_self s, ← e, ← bytes_self (((((((wd 0) ++ spB) ++ (wd 1)) ++ spB) ++ (wd 2)) ++ spB) ++ (wd 3))]
  congr 2
  simp only [bytes_append, List.map_cons, List.map_nil, jn, spB]
  simp
theorem small_text {v : Int} (h : 0 ≤ v ∧ v ≤ 30) : (textB v).size ≤ 2 := by
  obtain ⟨n, rfl⟩ := Int.eq_ofNat_of_zero_le h.1
  rw [← bytes_len, textB_list, Lib.itoa_nonneg]
  exact digits_len 1 n (by have h3 : (10 : Nat) ^ 2 = 100 := by decide
                           omega)
theorem words_small {s : ByteArray} {wd : Nat → ByteArray} (h : parts 32 s = [wd 0, wd 1, wd 2, wd 3]) (h2 : ok4 wd = true) (h3 : isKitB (kn wd) = true) : s.size ≤ 40 := by
  rw [words_size h]
  simp only [ok4, Bool.and_eq_true] at h2
  have t0 : textB (kn wd 0) = wd 0 := readR_ok h2.1.1.1
  have t1 : textB (kn wd 1) = wd 1 := readR_ok h2.1.1.2
  have t2 : textB (kn wd 2) = wd 2 := readR_ok h2.1.2
  have t3 : textB (kn wd 3) = wd 3 := readR_ok h2.2
  have b0 := small_text (kit_bounds h3 0 (by omega))
  have b1 := small_text (kit_bounds h3 1 (by omega))
  have b2 := small_text (kit_bounds h3 2 (by omega))
  have b3 := small_text (kit_bounds h3 3 (by omega))
  rw [t0] at b0; rw [t1] at b1; rw [t2] at b2; rw [t3] at b3
  omega
theorem pkR_big {s : ByteArray} (h : 40 < s.size) : pkR s = (zeroK, false) := by
  unfold pkR
  by_cases c : (parts 32 s).length = 4
  · rw [decide_eq_true c]
    simp only [cond_true]
    unfold pk4
    cases q : ok4 (fun i => (parts 32 s).getD i ByteArray.empty) && isKitB (kn (fun i => (parts 32 s).getD i ByteArray.empty))
    · rfl
    · simp only [Bool.and_eq_true] at q
      have := words_small (four_words c) q.1 q.2
      omega
  · rw [decide_eq_false c]; rfl
/-- the words in memory -/
def W4 (w : World) (g : Nat) (wd : Nat → ByteArray) : Prop := w.cell? ⟨g, 0, none⟩ = some (.string (wd 0)) ∧ w.cell? ⟨g, 1, none⟩ = some (.string (wd 1)) ∧ w.cell? ⟨g, 2, none⟩ = some (.string (wd 2)) ∧ w.cell? ⟨g, 3, none⟩ = some (.string (wd 3))
def pk (wd : Nat → ByteArray) (j : Nat) : Nat → Int := fun i => if i < j then kn wd i else 0
/-- what holds while the words are read: R: the result, B: the kit that is made, g: the words -/
structure PI (w wr : World) (R B g : Nat) (wd : Nat → ByteArray) (j : Nat) : Prop where
  hw : W4 wr g wd
  hk : wr.heap[B]? = some (.cells #[.int .i64 (pk wd j 0), .int .i64 (pk wd j 1), .int .i64 (pk wd j 2), .int .i64 (pk wd j 3)] 49 (0, 0))
  hr : wr.heap[R]? = some (.cells #[.int .i64 0, .int .i64 0, .int .i64 0, .int .i64 0] 49 (0, 0))
  hb : Below w.heap.size w wr
  ne1 : g ≠ B
  ne2 : R ≠ B
  hB : w.heap.size ≤ B
  hR : w.heap.size ≤ R
theorem PI.below {w wr w' : World} {R B g : Nat} {wd : Nat → ByteArray} {j : Nat} (h : PI w wr R B g wd j) (hb : Below wr.heap.size wr w') : PI w w' R B g wd j :=
  ⟨⟨keep_below hb h.hw.1, keep_below hb h.hw.2.1, keep_below hb h.hw.2.2.1, keep_below hb h.hw.2.2.2⟩, blk_below h.hk hb, blk_below h.hr hb, below_chain h.hb hb, h.ne1, h.ne2, h.hB, h.hR⟩
theorem cell_far {w : World} {g B i j : Nat} {v u : Value} (h : w.cell? ⟨g, i, none⟩ = some v) (ne : g ≠ B) : (w.setCell ⟨B, j, none⟩ u).cell? ⟨g, i, none⟩ = some v := by
  rw [World.cell?_setCell_other (w := w) (h := fun e => ne (by injection e with e1 _; exact e1.symm))]; exact h
theorem PI.set {w wr : World} {R B g : Nat} {wd : Nat → ByteArray} {j : Nat} (h : PI w wr R B g wd j) (hj : j < 4) : PI w (wr.setCell ⟨B, j, none⟩ (.int .i64 (kn wd j))) R B g wd (j + 1) := by
  refine ⟨⟨cell_far h.hw.1 h.ne1, cell_far h.hw.2.1 h.ne1, cell_far h.hw.2.2.1 h.ne1, cell_far h.hw.2.2.2 h.ne1⟩, ?_, blk_far h.hr h.ne2 _, h.hb.setCell h.hB _, h.ne1, h.ne2, h.hB, h.hR⟩
  rw [blk_set h.hk j]
  obtain rfl | rfl | rfl | rfl : j = 0 ∨ j = 1 ∨ j = 2 ∨ j = 3 := by omega
  all_goals simp [pk]
set_option maxHeartbeats 3200000 in
theorem specKit4_any (s : ByteArray) (wd : Nat → ByteArray) (hp : parts 32 s = [wd 0, wd 1, wd 2, wd 3]) (hs : s.size ≤ 40) (w : World) :
    Calls Tryd.prog 40 #[.string s] w fun e w' => e = .returned (.tuple #[A4 (pk4 wd).1, .bool (pk4 wd).2]) ∧ Below w.heap.size w w' := by
  have d1 : decide ((40 : Int) < (s.size : Int)) = false := decide_eq_false (by omega)
  have d2 : decide (40 < s.size) = false := decide_eq_false (by omega)
  have hS := fun W => spec_l1Split.calls (s.size + 1) s 32 [wd 0, wd 1, wd 2, wd 3] W (by rw [← hp]; exact split_f 32 s (by omega) (s.size + 1) (by omega))
  have ws := words_size hp
  have ww : ∀ i, i < 4 → (wd i).size ≤ 1048576 := by
    intro i hi
    obtain rfl | rfl | rfl | rfl : i = 0 ∨ i = 1 ∨ i = 2 ∨ i = 3 := by omega
    all_goals omega
  have HRD := Aside0.mk (show ∀ i, i < 4 → ∀ W, Calls Tryd.prog 60 #[.string (wd i)] W fun e w' => e = .returned (.tuple #[.int .i64 (kn wd i), .bool (readR (wd i)).2]) ∧ Drawn0 W w' from
    fun i hi W => spec_l1Read.calls 20 (wd i) _ _ W (read_f (wd i) (ww i hi)))
  have HP := Aside0.mk (show ∀ i, i < 4 → (readR (wd i)).2 = false → pk4 wd = (zeroK, false) from fun i hi e => by
    unfold pk4 ok4
    obtain rfl | rfl | rfl | rfl : i = 0 ∨ i = 1 ∨ i = 2 ∨ i = 3 := by omega
    all_goals rw [e]; simp)
  have HS := Aside0.mk hp
  clear hp ws hs ww
  go_enter Tryd.func40, Tryd.ntmps40
  go_wp2_with fail
  refine (hS _).mono ?_
  rintro e w1 ⟨v0, rfl, hR, hb⟩
  obtain ⟨g, cp, rfl, hg1, hg2, cl, hcl⟩ := Kd.R_form hR (by simp)
  have c0 := (Kd.R_celln (⟨#[]⟩ : ByteArray) hR 0 (by omega) (by simp)).1
  have c1 := (Kd.R_celln (⟨#[]⟩ : ByteArray) hR 1 (by omega) (by simp)).1
  have c2 := (Kd.R_celln (⟨#[]⟩ : ByteArray) hR 2 (by omega) (by simp)).1
  have c3 := (Kd.R_celln (⟨#[]⟩ : ByteArray) hR 3 (by omega) (by simp)).1
  have HW1 := Aside0.mk (show W4 w1 g wd from ⟨c0, c1, c2, c3⟩)
  have HR1 := Aside0.mk ((hb.block w.heap.size (by simp)).trans (heap_alloc_new w _))
  have HB1 := Aside0.mk (below_chain (below_alloc (Below.refl w.heap.size w) _) hb)
  have HG := Aside0.mk (show w.heap.size + 1 ≤ g ∧ g < w1.heap.size from ⟨by simpa using hg1, hg2⟩)
  clear hR hb c0 c1 c2 c3 cl hcl hg1 hg2 hS
  go_wp2_with fail
  go_loopw [6] (fun v6 wr => ∃ j : Nat, j ≤ 4 ∧ v6 = .int .i64 j ∧ Aside0 (∀ i, i < j → (readR (wd i)).2 = true) ∧ Aside0 (PI w wr w.heap.size w1.heap.size g wd j)) (fun v6 _ => 4 - (intOf v6).toNat)
  case atStart =>
    refine ⟨0, by omega, rfl, ⟨fun i hi => absurd hi (by omega)⟩, ⟨⟨keep_alloc _ HW1.out.1, keep_alloc _ HW1.out.2.1, keep_alloc _ HW1.out.2.2.1, keep_alloc _ HW1.out.2.2.2⟩, by simpa [pk] using heap_alloc_new w1 _, blk_alloc HR1.out _, below_alloc HB1.out _, ?_, ?_, ?_, Nat.le_refl _⟩⟩
    all_goals (have := HG.out; have := HB1.out.size; omega)
  case round =>
    obtain ⟨j, hj, rfl, HOK, HI⟩ := hrel
    obtain rfl | rfl | rfl | rfl | rfl : j = 0 ∨ j = 1 ∨ j = 2 ∨ j = 3 ∨ j = 4 := by omega
    · have h := HI.out
      have a := h.hw.1
      have kc := (blk_cell h.hk 0).trans rfl
      have kf := blk_frozen h.hk 0
      have r0 := (blk_cell h.hr 0).trans rfl
      have r1 := (blk_cell h.hr 1).trans rfl
      have r2 := (blk_cell h.hr 2).trans rfl
      have r3 := (blk_cell h.hr 3).trans rfl
      have f0 := blk_frozen h.hr 0
      have f1 := blk_frozen h.hr 1
      have f2 := blk_frozen h.hr 2
      have f3 := blk_frozen h.hr 3
      clear h
      have hr := HRD.out 0 (by omega)
      cases e : (readR (wd 0)).2
      · rw [e] at hr
        have ep := HP.out 0 (by omega) e
        go_wp2_with (first | (go_at_call 60; refine (hr _).mono ?_; rintro e w2 ⟨rfl, ⟨nd, rfl⟩⟩) | fail)
        refine bodyPost_ret (v := .tuple #[A4 zeroK, .bool false]) (by simp [results, Tryd.results40, go_sem, zeroK, *]) rfl ⟨by rw [ep], ?_⟩
        exact bl_set _ (Nat.le_refl _) (bl_set _ (Nat.le_refl _) (bl_set _ (Nat.le_refl _) (bl_set _ (Nat.le_refl _) (bl_drewN nd HI.out.hb))))
      · rw [e] at hr
        go_wp2_with (first | (go_at_call 60; refine (hr _).mono ?_; rintro e w2 ⟨rfl, ⟨nd, rfl⟩⟩) | fail)
        refine ⟨⟨1, by omega, rfl, ⟨fun i hi => ?_⟩, ⟨?_⟩⟩, by simp [intOf]⟩
        · by_cases q : i < 0
          · exact HOK.out i q
          · obtain rfl : i = 0 := by omega
            exact e
        · exact (HI.out.below (Drawn0.below ⟨nd, rfl⟩)).set (by omega)
    · have h := HI.out
      have a := h.hw.2.1
      have kc := (blk_cell h.hk 1).trans rfl
      have kf := blk_frozen h.hk 1
      have r0 := (blk_cell h.hr 0).trans rfl
      have r1 := (blk_cell h.hr 1).trans rfl
      have r2 := (blk_cell h.hr 2).trans rfl
      have r3 := (blk_cell h.hr 3).trans rfl
      have f0 := blk_frozen h.hr 0
      have f1 := blk_frozen h.hr 1
      have f2 := blk_frozen h.hr 2
      have f3 := blk_frozen h.hr 3
      clear h
      have hr := HRD.out 1 (by omega)
      cases e : (readR (wd 1)).2
      · rw [e] at hr
        have ep := HP.out 1 (by omega) e
        go_wp2_with (first | (go_at_call 60; refine (hr _).mono ?_; rintro e w2 ⟨rfl, ⟨nd, rfl⟩⟩) | fail)
        refine bodyPost_ret (v := .tuple #[A4 zeroK, .bool false]) (by simp [results, Tryd.results40, go_sem, zeroK, *]) rfl ⟨by rw [ep], ?_⟩
        exact bl_set _ (Nat.le_refl _) (bl_set _ (Nat.le_refl _) (bl_set _ (Nat.le_refl _) (bl_set _ (Nat.le_refl _) (bl_drewN nd HI.out.hb))))
      · rw [e] at hr
        go_wp2_with (first | (go_at_call 60; refine (hr _).mono ?_; rintro e w2 ⟨rfl, ⟨nd, rfl⟩⟩) | fail)
        refine ⟨⟨2, by omega, rfl, ⟨fun i hi => ?_⟩, ⟨?_⟩⟩, by simp [intOf]⟩
        · by_cases q : i < 1
          · exact HOK.out i q
          · obtain rfl : i = 1 := by omega
            exact e
        · exact (HI.out.below (Drawn0.below ⟨nd, rfl⟩)).set (by omega)
    · have h := HI.out
      have a := h.hw.2.2.1
      have kc := (blk_cell h.hk 2).trans rfl
      have kf := blk_frozen h.hk 2
      have r0 := (blk_cell h.hr 0).trans rfl
      have r1 := (blk_cell h.hr 1).trans rfl
      have r2 := (blk_cell h.hr 2).trans rfl
      have r3 := (blk_cell h.hr 3).trans rfl
      have f0 := blk_frozen h.hr 0
      have f1 := blk_frozen h.hr 1
      have f2 := blk_frozen h.hr 2
      have f3 := blk_frozen h.hr 3
      clear h
      have hr := HRD.out 2 (by omega)
      cases e : (readR (wd 2)).2
      · rw [e] at hr
        have ep := HP.out 2 (by omega) e
        go_wp2_with (first | (go_at_call 60; refine (hr _).mono ?_; rintro e w2 ⟨rfl, ⟨nd, rfl⟩⟩) | fail)
        refine bodyPost_ret (v := .tuple #[A4 zeroK, .bool false]) (by simp [results, Tryd.results40, go_sem, zeroK, *]) rfl ⟨by rw [ep], ?_⟩
        exact bl_set _ (Nat.le_refl _) (bl_set _ (Nat.le_refl _) (bl_set _ (Nat.le_refl _) (bl_set _ (Nat.le_refl _) (bl_drewN nd HI.out.hb))))
      · rw [e] at hr
        go_wp2_with (first | (go_at_call 60; refine (hr _).mono ?_; rintro e w2 ⟨rfl, ⟨nd, rfl⟩⟩) | fail)
        refine ⟨⟨3, by omega, rfl, ⟨fun i hi => ?_⟩, ⟨?_⟩⟩, by simp [intOf]⟩
        · by_cases q : i < 2
          · exact HOK.out i q
          · obtain rfl : i = 2 := by omega
            exact e
        · exact (HI.out.below (Drawn0.below ⟨nd, rfl⟩)).set (by omega)
    · have h := HI.out
      have a := h.hw.2.2.2
      have kc := (blk_cell h.hk 3).trans rfl
      have kf := blk_frozen h.hk 3
      have r0 := (blk_cell h.hr 0).trans rfl
      have r1 := (blk_cell h.hr 1).trans rfl
      have r2 := (blk_cell h.hr 2).trans rfl
      have r3 := (blk_cell h.hr 3).trans rfl
      have f0 := blk_frozen h.hr 0
      have f1 := blk_frozen h.hr 1
      have f2 := blk_frozen h.hr 2
      have f3 := blk_frozen h.hr 3
      clear h
      have hr := HRD.out 3 (by omega)
      cases e : (readR (wd 3)).2
      · rw [e] at hr
        have ep := HP.out 3 (by omega) e
        go_wp2_with (first | (go_at_call 60; refine (hr _).mono ?_; rintro e w2 ⟨rfl, ⟨nd, rfl⟩⟩) | fail)
        refine bodyPost_ret (v := .tuple #[A4 zeroK, .bool false]) (by simp [results, Tryd.results40, go_sem, zeroK, *]) rfl ⟨by rw [ep], ?_⟩
        exact bl_set _ (Nat.le_refl _) (bl_set _ (Nat.le_refl _) (bl_set _ (Nat.le_refl _) (bl_set _ (Nat.le_refl _) (bl_drewN nd HI.out.hb))))
      · rw [e] at hr
        go_wp2_with (first | (go_at_call 60; refine (hr _).mono ?_; rintro e w2 ⟨rfl, ⟨nd, rfl⟩⟩) | fail)
        refine ⟨⟨4, by omega, rfl, ⟨fun i hi => ?_⟩, ⟨?_⟩⟩, by simp [intOf]⟩
        · by_cases q : i < 3
          · exact HOK.out i q
          · obtain rfl : i = 3 := by omega
            exact e
        · exact (HI.out.below (Drawn0.below ⟨nd, rfl⟩)).set (by omega)
    · have o4 : ok4 wd = true := by simp [ok4, HOK.out 0, HOK.out 1, HOK.out 2, HOK.out 3]
      have et := words_text HS.out o4
      have hk := l2Kit_any (kn wd)
      cases c : isKitB (kn wd)
      · have ep : pk4 wd = (zeroK, false) := by unfold pk4; rw [o4, c]; rfl
        rw [c] at hk
        clear et
        have h := HI.out
        have k0 : _ = some (Value.int .i64 (kn wd 0)) := (blk_cell h.hk 0).trans (by simp [pk])
        have g0 := blk_frozen h.hk 0
        have r0 := (blk_cell h.hr 0).trans rfl
        have f0 := blk_frozen h.hr 0
        have k1 : _ = some (Value.int .i64 (kn wd 1)) := (blk_cell h.hk 1).trans (by simp [pk])
        have g1 := blk_frozen h.hk 1
        have r1 := (blk_cell h.hr 1).trans rfl
        have f1 := blk_frozen h.hr 1
        have k2 : _ = some (Value.int .i64 (kn wd 2)) := (blk_cell h.hk 2).trans (by simp [pk])
        have g2 := blk_frozen h.hk 2
        have r2 := (blk_cell h.hr 2).trans rfl
        have f2 := blk_frozen h.hr 2
        have k3 : _ = some (Value.int .i64 (kn wd 3)) := (blk_cell h.hk 3).trans (by simp [pk])
        have g3 := blk_frozen h.hk 3
        have r3 := (blk_cell h.hr 3).trans rfl
        have f3 := blk_frozen h.hr 3
        clear h
        go_wp2_with fail
        refine (hk _).mono ?_
        rintro e w2 ⟨rfl, hb⟩
        have H2 := Aside0.mk (HI.out.below hb)
        clear hb HI hk
        clear k0 g0 r0 f0 k1 g1 r1 f1 k2 g2 r2 f2 k3 g3 r3 f3
        have h := H2.out
        have k0 : _ = some (Value.int .i64 (kn wd 0)) := (blk_cell h.hk 0).trans (by simp [pk])
        have g0 := blk_frozen h.hk 0
        have r0 := (blk_cell h.hr 0).trans rfl
        have f0 := blk_frozen h.hr 0
        have k1 : _ = some (Value.int .i64 (kn wd 1)) := (blk_cell h.hk 1).trans (by simp [pk])
        have g1 := blk_frozen h.hk 1
        have r1 := (blk_cell h.hr 1).trans rfl
        have f1 := blk_frozen h.hr 1
        have k2 : _ = some (Value.int .i64 (kn wd 2)) := (blk_cell h.hk 2).trans (by simp [pk])
        have g2 := blk_frozen h.hk 2
        have r2 := (blk_cell h.hr 2).trans rfl
        have f2 := blk_frozen h.hr 2
        have k3 : _ = some (Value.int .i64 (kn wd 3)) := (blk_cell h.hk 3).trans (by simp [pk])
        have g3 := blk_frozen h.hk 3
        have r3 := (blk_cell h.hr 3).trans rfl
        have f3 := blk_frozen h.hr 3
        clear h
        go_wp2_with fail
        refine bodyPost_ret (v := .tuple #[A4 zeroK, .bool false]) (by simp [results, Tryd.results40, go_sem, zeroK, *]) rfl ⟨by rw [ep], ?_⟩
        exact bl_set _ (Nat.le_refl _) (bl_set _ (Nat.le_refl _) (bl_set _ (Nat.le_refl _) (bl_set _ (Nat.le_refl _) H2.out.hb)))
      · have ep : pk4 wd = (kn wd, true) := by unfold pk4; rw [o4, c]; rfl
        have hT := l2Text_any (kn wd) c
        rw [c] at hk
        rw [et] at hT
        clear et
        have h := HI.out
        have k0 : _ = some (Value.int .i64 (kn wd 0)) := (blk_cell h.hk 0).trans (by simp [pk])
        have g0 := blk_frozen h.hk 0
        have r0 := (blk_cell h.hr 0).trans rfl
        have f0 := blk_frozen h.hr 0
        have k1 : _ = some (Value.int .i64 (kn wd 1)) := (blk_cell h.hk 1).trans (by simp [pk])
        have g1 := blk_frozen h.hk 1
        have r1 := (blk_cell h.hr 1).trans rfl
        have f1 := blk_frozen h.hr 1
        have k2 : _ = some (Value.int .i64 (kn wd 2)) := (blk_cell h.hk 2).trans (by simp [pk])
        have g2 := blk_frozen h.hk 2
        have r2 := (blk_cell h.hr 2).trans rfl
        have f2 := blk_frozen h.hr 2
        have k3 : _ = some (Value.int .i64 (kn wd 3)) := (blk_cell h.hk 3).trans (by simp [pk])
        have g3 := blk_frozen h.hk 3
        have r3 := (blk_cell h.hr 3).trans rfl
        have f3 := blk_frozen h.hr 3
        clear h
        go_wp2_with fail
        refine (hk _).mono ?_
        rintro e w2 ⟨rfl, hb⟩
        have H2 := Aside0.mk (HI.out.below hb)
        clear hb HI hk
        clear k0 g0 r0 f0 k1 g1 r1 f1 k2 g2 r2 f2 k3 g3 r3 f3
        have h := H2.out
        have k0 : _ = some (Value.int .i64 (kn wd 0)) := (blk_cell h.hk 0).trans (by simp [pk])
        have g0 := blk_frozen h.hk 0
        have r0 := (blk_cell h.hr 0).trans rfl
        have f0 := blk_frozen h.hr 0
        have k1 : _ = some (Value.int .i64 (kn wd 1)) := (blk_cell h.hk 1).trans (by simp [pk])
        have g1 := blk_frozen h.hk 1
        have r1 := (blk_cell h.hr 1).trans rfl
        have f1 := blk_frozen h.hr 1
        have k2 : _ = some (Value.int .i64 (kn wd 2)) := (blk_cell h.hk 2).trans (by simp [pk])
        have g2 := blk_frozen h.hk 2
        have r2 := (blk_cell h.hr 2).trans rfl
        have f2 := blk_frozen h.hr 2
        have k3 : _ = some (Value.int .i64 (kn wd 3)) := (blk_cell h.hk 3).trans (by simp [pk])
        have g3 := blk_frozen h.hk 3
        have r3 := (blk_cell h.hr 3).trans rfl
        have f3 := blk_frozen h.hr 3
        clear h
        go_wp2_with fail
        refine (hT _).mono ?_
        rintro e w3 ⟨rfl, hb⟩
        have H3 := Aside0.mk (H2.out.below hb)
        clear hb H2 hT
        clear k0 g0 r0 f0 k1 g1 r1 f1 k2 g2 r2 f2 k3 g3 r3 f3
        have h := H3.out
        have k0 : _ = some (Value.int .i64 (kn wd 0)) := (blk_cell h.hk 0).trans (by simp [pk])
        have g0 := blk_frozen h.hk 0
        have r0 := (blk_cell h.hr 0).trans rfl
        have f0 := blk_frozen h.hr 0
        have k1 : _ = some (Value.int .i64 (kn wd 1)) := (blk_cell h.hk 1).trans (by simp [pk])
        have g1 := blk_frozen h.hk 1
        have r1 := (blk_cell h.hr 1).trans rfl
        have f1 := blk_frozen h.hr 1
        have k2 : _ = some (Value.int .i64 (kn wd 2)) := (blk_cell h.hk 2).trans (by simp [pk])
        have g2 := blk_frozen h.hk 2
        have r2 := (blk_cell h.hr 2).trans rfl
        have f2 := blk_frozen h.hr 2
        have k3 : _ = some (Value.int .i64 (kn wd 3)) := (blk_cell h.hk 3).trans (by simp [pk])
        have g3 := blk_frozen h.hk 3
        have r3 := (blk_cell h.hr 3).trans rfl
        have f3 := blk_frozen h.hr 3
        clear h
        go_wp2_with fail
        refine bodyPost_ret (v := .tuple #[A4 (kn wd), .bool true]) (by simp [results, Tryd.results40, go_sem, *]) rfl ⟨by rw [ep], ?_⟩
        exact bl_set _ (Nat.le_refl _) (bl_set _ (Nat.le_refl _) (bl_set _ (Nat.le_refl _) (bl_set _ (Nat.le_refl _) H3.out.hb)))
theorem splitw_any (s : ByteArray) (hs : s.size ≤ 1048576) (W : World) (hm : ML W) : Calls Tryd.prog 48 #[.string s, .string ⟨#[32]⟩] W fun e w' => e = .returned (.slice (some ⟨W.heap.size, 0, none⟩) (parts 32 s).length (parts 32 s).length) ∧ w' = W.alloc (.cells ((parts 32 s).map Value.string).toArray 9) := by
  obtain ⟨m, hm⟩ := hm
  have hS := Tryd.strings_Split s ⟨#[32]⟩ m W (by omega) hm (Nat.le_refl 1)
  rw [split_parts 32 _ s rfl, ← parts_len 32 s] at hS
  exact hS
set_option maxHeartbeats 3200000 in
theorem implKit4_any (s : ByteArray) (wd : Nat → ByteArray) (hp : parts 32 s = [wd 0, wd 1, wd 2, wd 3]) (hs : s.size ≤ 1048576) (w : World) (ht : Tab w) (he : EV w) (hm : ML w) :
    Calls Tryd.prog 41 #[.string s] w fun e w' => e = .returned (.tuple #[A4 (pk4 wd).1, .bool (pk4 wd).2]) ∧ Below w.heap.size w w' := by
  have ws := words_size hp
  have ww : ∀ i, i < 4 → (wd i).size ≤ 1048576 := by
    intro i hi
    obtain rfl | rfl | rfl | rfl : i = 0 ∨ i = 1 ∨ i = 2 ∨ i = 3 := by omega
    all_goals omega
  have HRD := Aside0.mk (show ∀ i, i < 4 → ∀ W, Below w.heap.size w W → Calls Tryd.prog 32 #[.string (wd i)] W fun e w' => e = .returned (.tuple #[.int .i64 (kn wd i), .bool (readR (wd i)).2]) ∧ Below W.heap.size W w' from
    fun i hi W hb => implParse_any (wd i) (ww i hi) W (tab_keep ht hb) (ev_keep he hb))
  have HP := Aside0.mk (show ∀ i, i < 4 → (readR (wd i)).2 = false → pk4 wd = (zeroK, false) from fun i hi e => by
    unfold pk4 ok4
    obtain rfl | rfl | rfl | rfl : i = 0 ∨ i = 1 ∨ i = 2 ∨ i = 3 := by omega
    all_goals rw [e]; simp)
  have hS := fun W (hb : Below w.heap.size w W) => splitw_any s hs W (ml_keep hm hb)
  rw [hp] at hS
  simp only [List.map_cons, List.map_nil, List.length_cons, List.length_nil, Nat.zero_add, Nat.reduceAdd] at hS
  clear hp ws hs ww ht he hm
  go_enter Tryd.func41, Tryd.ntmps41
  go_wp2_with fail
  refine (hS _ (by repeat (first | exact Below.refl _ _ | apply below_alloc))).mono ?_
  rintro e w1 ⟨rfl, hw1⟩
  have HW1 := Aside0.mk (show W4 w1 (w.heap.size + 2) wd by
    rw [hw1]
    have hh := heap_alloc_new ((w.alloc (.cells #[.int .i64 0, .int .i64 0, .int .i64 0, .int .i64 0] 49 (0, 0))).alloc (.cells #[.int .i64 0, .int .i64 0, .int .i64 0, .int .i64 0] 49 (0, 0))) (.cells #[.string (wd 0), .string (wd 1), .string (wd 2), .string (wd 3)] 9)
    simp only [World.size_alloc] at hh
    exact ⟨(blk_cell hh 0).trans rfl, (blk_cell hh 1).trans rfl, (blk_cell hh 2).trans rfl, (blk_cell hh 3).trans rfl⟩)
  have HR1 := Aside0.mk (show w1.heap[w.heap.size]? = some (.cells #[.int .i64 0, .int .i64 0, .int .i64 0, .int .i64 0] 49 (0, 0)) by
    rw [hw1]
    exact blk_alloc (blk_alloc (heap_alloc_new w _) _) _)
  have HK1 := Aside0.mk (show w1.heap[w.heap.size + 1]? = some (.cells #[.int .i64 0, .int .i64 0, .int .i64 0, .int .i64 0] 49 (0, 0)) by
    rw [hw1]
    have hh := heap_alloc_new (w.alloc (.cells #[.int .i64 0, .int .i64 0, .int .i64 0, .int .i64 0] 49 (0, 0))) (.cells #[.int .i64 0, .int .i64 0, .int .i64 0, .int .i64 0] 49 (0, 0))
    simp only [World.size_alloc] at hh
    exact blk_alloc hh _)
  have HB1 := Aside0.mk (show Below w.heap.size w w1 by
    rw [hw1]; repeat (first | exact Below.refl _ _ | apply below_alloc))
  clear hw1 hS
  go_wp2_with fail
  go_loopw [19] (fun v19 wr => ∃ j : Nat, j ≤ 4 ∧ v19 = .int .i64 j ∧ Aside0 (∀ i, i < j → (readR (wd i)).2 = true) ∧ Aside0 (PI w wr w.heap.size (w.heap.size + 1) (w.heap.size + 2) wd j)) (fun v19 _ => 4 - (intOf v19).toNat)
  case atStart =>
    refine ⟨0, by omega, rfl, ⟨fun i hi => absurd hi (by omega)⟩, ⟨⟨HW1.out, by simpa [pk] using HK1.out, HR1.out, HB1.out, ?_, ?_, ?_, Nat.le_refl _⟩⟩⟩
    all_goals omega
  case round =>
    obtain ⟨j, hj, rfl, HOK, HI⟩ := hrel
    obtain rfl | rfl | rfl | rfl | rfl : j = 0 ∨ j = 1 ∨ j = 2 ∨ j = 3 ∨ j = 4 := by omega
    · have a := HI.out.hw.1
      have hr := HRD.out 0 (by omega)
      go_wp2_with fail
      refine (hr _ HI.out.hb).mono ?_
      rintro e w2 ⟨rfl, hb⟩
      have H2 := Aside0.mk (HI.out.below hb)
      clear a hb HI hr
      have h := H2.out
      have kc := (blk_cell h.hk 0).trans rfl
      have kf := blk_frozen h.hk 0
      have r0 := (blk_cell h.hr 0).trans rfl
      have r1 := (blk_cell h.hr 1).trans rfl
      have r2 := (blk_cell h.hr 2).trans rfl
      have r3 := (blk_cell h.hr 3).trans rfl
      have f0 := blk_frozen h.hr 0
      have f1 := blk_frozen h.hr 1
      have f2 := blk_frozen h.hr 2
      have f3 := blk_frozen h.hr 3
      clear h
      cases e : (readR (wd 0)).2
      · have ep := HP.out 0 (by omega) e
        go_wp2_with fail
        refine bodyPost_ret (v := .tuple #[A4 zeroK, .bool false]) (by simp [results, Tryd.results41, go_sem, zeroK, *]) rfl ⟨by rw [ep], ?_⟩
        exact bl_set _ (Nat.le_refl _) (bl_set _ (Nat.le_refl _) (bl_set _ (Nat.le_refl _) (bl_set _ (Nat.le_refl _) H2.out.hb)))
      · go_wp2_with fail
        refine ⟨⟨1, by omega, rfl, ⟨fun i hi => ?_⟩, ⟨H2.out.set (by omega)⟩⟩, by simp [intOf]⟩
        by_cases q : i < 0
        · exact HOK.out i q
        · obtain rfl : i = 0 := by omega
          exact e
    · have a := HI.out.hw.2.1
      have hr := HRD.out 1 (by omega)
      go_wp2_with fail
      refine (hr _ HI.out.hb).mono ?_
      rintro e w2 ⟨rfl, hb⟩
      have H2 := Aside0.mk (HI.out.below hb)
      clear a hb HI hr
      have h := H2.out
      have kc := (blk_cell h.hk 1).trans rfl
      have kf := blk_frozen h.hk 1
      have r0 := (blk_cell h.hr 0).trans rfl
      have r1 := (blk_cell h.hr 1).trans rfl
      have r2 := (blk_cell h.hr 2).trans rfl
      have r3 := (blk_cell h.hr 3).trans rfl
      have f0 := blk_frozen h.hr 0
      have f1 := blk_frozen h.hr 1
      have f2 := blk_frozen h.hr 2
      have f3 := blk_frozen h.hr 3
      clear h
      cases e : (readR (wd 1)).2
      · have ep := HP.out 1 (by omega) e
        go_wp2_with fail
        refine bodyPost_ret (v := .tuple #[A4 zeroK, .bool false]) (by simp [results, Tryd.results41, go_sem, zeroK, *]) rfl ⟨by rw [ep], ?_⟩
        exact bl_set _ (Nat.le_refl _) (bl_set _ (Nat.le_refl _) (bl_set _ (Nat.le_refl _) (bl_set _ (Nat.le_refl _) H2.out.hb)))
      · go_wp2_with fail
        refine ⟨⟨2, by omega, rfl, ⟨fun i hi => ?_⟩, ⟨H2.out.set (by omega)⟩⟩, by simp [intOf]⟩
        by_cases q : i < 1
        · exact HOK.out i q
        · obtain rfl : i = 1 := by omega
          exact e
    · have a := HI.out.hw.2.2.1
      have hr := HRD.out 2 (by omega)
      go_wp2_with fail
      refine (hr _ HI.out.hb).mono ?_
      rintro e w2 ⟨rfl, hb⟩
      have H2 := Aside0.mk (HI.out.below hb)
      clear a hb HI hr
      have h := H2.out
      have kc := (blk_cell h.hk 2).trans rfl
      have kf := blk_frozen h.hk 2
      have r0 := (blk_cell h.hr 0).trans rfl
      have r1 := (blk_cell h.hr 1).trans rfl
      have r2 := (blk_cell h.hr 2).trans rfl
      have r3 := (blk_cell h.hr 3).trans rfl
      have f0 := blk_frozen h.hr 0
      have f1 := blk_frozen h.hr 1
      have f2 := blk_frozen h.hr 2
      have f3 := blk_frozen h.hr 3
      clear h
      cases e : (readR (wd 2)).2
      · have ep := HP.out 2 (by omega) e
        go_wp2_with fail
        refine bodyPost_ret (v := .tuple #[A4 zeroK, .bool false]) (by simp [results, Tryd.results41, go_sem, zeroK, *]) rfl ⟨by rw [ep], ?_⟩
        exact bl_set _ (Nat.le_refl _) (bl_set _ (Nat.le_refl _) (bl_set _ (Nat.le_refl _) (bl_set _ (Nat.le_refl _) H2.out.hb)))
      · go_wp2_with fail
        refine ⟨⟨3, by omega, rfl, ⟨fun i hi => ?_⟩, ⟨H2.out.set (by omega)⟩⟩, by simp [intOf]⟩
        by_cases q : i < 2
        · exact HOK.out i q
        · obtain rfl : i = 2 := by omega
          exact e
    · have a := HI.out.hw.2.2.2
      have hr := HRD.out 3 (by omega)
      go_wp2_with fail
      refine (hr _ HI.out.hb).mono ?_
      rintro e w2 ⟨rfl, hb⟩
      have H2 := Aside0.mk (HI.out.below hb)
      clear a hb HI hr
      have h := H2.out
      have kc := (blk_cell h.hk 3).trans rfl
      have kf := blk_frozen h.hk 3
      have r0 := (blk_cell h.hr 0).trans rfl
      have r1 := (blk_cell h.hr 1).trans rfl
      have r2 := (blk_cell h.hr 2).trans rfl
      have r3 := (blk_cell h.hr 3).trans rfl
      have f0 := blk_frozen h.hr 0
      have f1 := blk_frozen h.hr 1
      have f2 := blk_frozen h.hr 2
      have f3 := blk_frozen h.hr 3
      clear h
      cases e : (readR (wd 3)).2
      · have ep := HP.out 3 (by omega) e
        go_wp2_with fail
        refine bodyPost_ret (v := .tuple #[A4 zeroK, .bool false]) (by simp [results, Tryd.results41, go_sem, zeroK, *]) rfl ⟨by rw [ep], ?_⟩
        exact bl_set _ (Nat.le_refl _) (bl_set _ (Nat.le_refl _) (bl_set _ (Nat.le_refl _) (bl_set _ (Nat.le_refl _) H2.out.hb)))
      · go_wp2_with fail
        refine ⟨⟨4, by omega, rfl, ⟨fun i hi => ?_⟩, ⟨H2.out.set (by omega)⟩⟩, by simp [intOf]⟩
        by_cases q : i < 3
        · exact HOK.out i q
        · obtain rfl : i = 3 := by omega
          exact e
    · have o4 : ok4 wd = true := by simp [ok4, HOK.out 0, HOK.out 1, HOK.out 2, HOK.out 3]
      have hk := kitOr_any (kn wd)
      have ep : pk4 wd = (opt (kn wd) (isKitB (kn wd)), isKitB (kn wd)) := by
        unfold pk4; rw [o4]
        cases isKitB (kn wd)
        · simp only [Bool.and_false, cond_false, Prod.mk.injEq, and_true]
          funext i; rfl
        · simp only [Bool.and_self, cond_true, Prod.mk.injEq, and_true]
          funext i; rfl
      generalize opt (kn wd) (isKitB (kn wd)) = kk at hk ep
      generalize isKitB (kn wd) = oo at hk ep
      have h := HI.out
      have k0 : _ = some (Value.int .i64 (kn wd 0)) := (blk_cell h.hk 0).trans (by simp [pk])
      have g0 := blk_frozen h.hk 0
      have r0 := (blk_cell h.hr 0).trans rfl
      have f0 := blk_frozen h.hr 0
      have k1 : _ = some (Value.int .i64 (kn wd 1)) := (blk_cell h.hk 1).trans (by simp [pk])
      have g1 := blk_frozen h.hk 1
      have r1 := (blk_cell h.hr 1).trans rfl
      have f1 := blk_frozen h.hr 1
      have k2 : _ = some (Value.int .i64 (kn wd 2)) := (blk_cell h.hk 2).trans (by simp [pk])
      have g2 := blk_frozen h.hk 2
      have r2 := (blk_cell h.hr 2).trans rfl
      have f2 := blk_frozen h.hr 2
      have k3 : _ = some (Value.int .i64 (kn wd 3)) := (blk_cell h.hk 3).trans (by simp [pk])
      have g3 := blk_frozen h.hk 3
      have r3 := (blk_cell h.hr 3).trans rfl
      have f3 := blk_frozen h.hr 3
      clear h
      go_wp2_with fail
      refine (hk _).mono ?_
      rintro e w2 ⟨rfl, hb⟩
      have H2 := Aside0.mk (HI.out.below hb)
      clear hb HI hk
      clear k0 g0 r0 f0 k1 g1 r1 f1 k2 g2 r2 f2 k3 g3 r3 f3
      have h := H2.out
      have k0 : _ = some (Value.int .i64 (kn wd 0)) := (blk_cell h.hk 0).trans (by simp [pk])
      have g0 := blk_frozen h.hk 0
      have r0 := (blk_cell h.hr 0).trans rfl
      have f0 := blk_frozen h.hr 0
      have k1 : _ = some (Value.int .i64 (kn wd 1)) := (blk_cell h.hk 1).trans (by simp [pk])
      have g1 := blk_frozen h.hk 1
      have r1 := (blk_cell h.hr 1).trans rfl
      have f1 := blk_frozen h.hr 1
      have k2 : _ = some (Value.int .i64 (kn wd 2)) := (blk_cell h.hk 2).trans (by simp [pk])
      have g2 := blk_frozen h.hk 2
      have r2 := (blk_cell h.hr 2).trans rfl
      have f2 := blk_frozen h.hr 2
      have k3 : _ = some (Value.int .i64 (kn wd 3)) := (blk_cell h.hk 3).trans (by simp [pk])
      have g3 := blk_frozen h.hk 3
      have r3 := (blk_cell h.hr 3).trans rfl
      have f3 := blk_frozen h.hr 3
      clear h
      go_wp2_with fail
      refine bodyPost_ret (v := .tuple #[A4 kk, .bool oo]) (by simp [results, Tryd.results41, go_sem, *]) rfl ⟨by rw [ep], ?_⟩
      exact bl_set _ (Nat.le_refl _) (bl_set _ (Nat.le_refl _) (bl_set _ (Nat.le_refl _) (bl_set _ (Nat.le_refl _) H2.out.hb)))
set_option maxHeartbeats 1600000 in
theorem specKitBig_any (s : ByteArray) (hs : 40 < s.size) (w : World) :
    Calls Tryd.prog 40 #[.string s] w fun e w' => e = .returned (.tuple #[A4 zeroK, .bool false]) ∧ Below w.heap.size w w' := by
  have d1 : decide ((40 : Int) < (s.size : Int)) = true := decide_eq_true (by omega)
  have d2 : decide (40 < s.size) = true := decide_eq_true (by omega)
  go_enter Tryd.func40, Tryd.ntmps40
  go_wp2_with fail
  refine bodyPost_ret (v := .tuple #[A4 zeroK, .bool false]) (by simp [results, Tryd.results40, go_sem, zeroK, *]) rfl ⟨rfl, (by (repeat first | (with_reducible assumption) | (with_reducible exact Below.refl _ _) | ((with_reducible refine bl_alloc _ ?_ ?_); focus (first | (simp; done) | (simp; omega) | omega)) | ((with_reducible refine bl_set _ ?_ ?_); focus (first | (simp; done) | (simp; omega) | omega)) | (with_reducible refine Below.drew ?_) | (with_reducible refine bl_drewN _ ?_)))⟩
set_option maxHeartbeats 1600000 in
theorem specKitN_any (s : ByteArray) (hn : (parts 32 s).length ≠ 4) (hs : s.size ≤ 40) (w : World) :
    Calls Tryd.prog 40 #[.string s] w fun e w' => e = .returned (.tuple #[A4 zeroK, .bool false]) ∧ Below w.heap.size w w' := by
  have d1 : decide ((40 : Int) < (s.size : Int)) = false := decide_eq_false (by omega)
  have d2 : decide (40 < s.size) = false := decide_eq_false (by omega)
  have hS := fun W => spec_l1Split.calls (s.size + 1) s 32 (parts 32 s) W (split_f 32 s (by omega) (s.size + 1) (by omega))
  generalize parts 32 s = Lw at hn hS
  have n1 : ((Lw.length : Int) != 4) = true := by simp; omega
  have n2 : ((Lw.length : Int) == 4) = false := by simp; omega
  have n3 : (Lw.length == 4) = false := by simp; omega
  have n4 : (Lw.length != 4) = true := by simp; omega
  have n5 : (Lw.length = 4) = False := eq_false hn
  clear hs hn
  go_enter Tryd.func40, Tryd.ntmps40
  go_wp2_with fail
  refine (hS _).mono ?_
  rintro e w1 ⟨v0, rfl, hR, hb⟩
  obtain ⟨A, cp, rfl, hcp, hC⟩ := Kd.R_reads hR
  have HR1 := Aside0.mk ((hb.block w.heap.size (by simp)).trans (heap_alloc_new w _))
  have HB1 := Aside0.mk (below_chain (below_alloc (Below.refl w.heap.size w) _) hb)
  clear hR hb hC hcp hS
  have r0 := fun o => ((blk_cell (blk_alloc HR1.out o) 0).trans rfl : (World.alloc w1 o).cell? _ = some (.int .i64 0))
  have f0 := fun o => blk_frozen (blk_alloc HR1.out o) 0
  have r1 := fun o => ((blk_cell (blk_alloc HR1.out o) 1).trans rfl : (World.alloc w1 o).cell? _ = some (.int .i64 0))
  have f1 := fun o => blk_frozen (blk_alloc HR1.out o) 1
  have r2 := fun o => ((blk_cell (blk_alloc HR1.out o) 2).trans rfl : (World.alloc w1 o).cell? _ = some (.int .i64 0))
  have f2 := fun o => blk_frozen (blk_alloc HR1.out o) 2
  have r3 := fun o => ((blk_cell (blk_alloc HR1.out o) 3).trans rfl : (World.alloc w1 o).cell? _ = some (.int .i64 0))
  have f3 := fun o => blk_frozen (blk_alloc HR1.out o) 3
  go_wp2_with fail
  refine bodyPost_ret (v := .tuple #[A4 zeroK, .bool false]) (by simp [results, Tryd.results40, go_sem, zeroK, *]) rfl ⟨rfl, ?_⟩
  exact bl_set _ (Nat.le_refl _) (bl_set _ (Nat.le_refl _) (bl_set _ (Nat.le_refl _) (bl_set _ (Nat.le_refl _) (below_alloc HB1.out _))))
set_option maxHeartbeats 1600000 in
theorem implKitN_any (s : ByteArray) (hn : (parts 32 s).length ≠ 4) (hs : s.size ≤ 1048576) (w : World) (hm : ML w) :
    Calls Tryd.prog 41 #[.string s] w fun e w' => e = .returned (.tuple #[A4 zeroK, .bool false]) ∧ Below w.heap.size w w' := by
  have hS := fun W (hb : Below w.heap.size w W) => splitw_any s hs W (ml_keep hm hb)
  generalize parts 32 s = Lw at hn hS
  have n1 : ((Lw.length : Int) != 4) = true := by simp; omega
  have n2 : ((Lw.length : Int) == 4) = false := by simp; omega
  have n3 : (Lw.length == 4) = false := by simp; omega
  have n4 : (Lw.length != 4) = true := by simp; omega
  have n5 : (Lw.length = 4) = False := eq_false hn
  clear hs hn hm
  go_enter Tryd.func41, Tryd.ntmps41
  go_wp2_with fail
  refine (hS _ (by repeat (first | exact Below.refl _ _ | apply below_alloc))).mono ?_
  rintro e w1 ⟨rfl, rfl⟩
  clear hS
  go_wp2_with fail
  refine bodyPost_ret (v := .tuple #[A4 zeroK, .bool false]) (by simp [results, Tryd.results41, go_sem, zeroK, *]) rfl ⟨rfl, ?_⟩
  repeat (first | exact Below.refl _ _ | apply below_alloc)
theorem specKit_any (s : ByteArray) (w : World) : Calls Tryd.prog 40 #[.string s] w fun e w' => e = .returned (.tuple #[A4 (pkR s).1, .bool (pkR s).2]) ∧ Below w.heap.size w w' := by
  by_cases b : s.size ≤ 40
  · by_cases c : (parts 32 s).length = 4
    · have := specKit4_any s (fun i => (parts 32 s).getD i ByteArray.empty) (four_words c) b w
      unfold pkR
      rw [decide_eq_true c]
      exact this
    · have := specKitN_any s c b w
      unfold pkR
      rw [decide_eq_false c]
      exact this
  · have := specKitBig_any s (by omega) w
    rw [pkR_big (by omega)]
    exact this
theorem implKit_any (s : ByteArray) (hs : s.size ≤ 1048576) (w : World) (ht : Tab w) (he : EV w) (hm : ML w) : Calls Tryd.prog 41 #[.string s] w fun e w' => e = .returned (.tuple #[A4 (pkR s).1, .bool (pkR s).2]) ∧ Below w.heap.size w w' := by
  unfold pkR
  by_cases c : (parts 32 s).length = 4
  · have := implKit4_any s (fun i => (parts 32 s).getD i ByteArray.empty) (four_words c) hs w ht he hm
    rw [decide_eq_true c]
    exact this
  · have := implKitN_any s c hs w hm
    rw [decide_eq_false c]
    exact this
set_option maxHeartbeats 1600000 in
theorem lawParseKit_any (s : ByteArray) (w : World) (ht : Tab w) (he : EV w) (hm : ML w) : Calls Tryd.prog 11 #[.string s] w fun e w' => e = .returned (.bool true) ∧ Below w.heap.size w w' := by
  by_cases big : s.size ≤ 1048576
  · have d1 : decide ((1048576 : Int) < (s.size : Int)) = false := decide_eq_false (by omega)
    have d2 : decide (1048576 < s.size) = false := decide_eq_false (by omega)
    have hs := specKit_any s w
    have hi := fun W (hb : Below w.heap.size w W) => implKit_any s big W (tab_keep ht hb) (ev_keep he hb) (ml_keep hm hb)
    clear ht he hm big
    generalize (pkR s).1 = k at hs hi
    generalize (pkR s).2 = o at hs hi
    go_enter Tryd.func11, Tryd.ntmps11
    go_wp2_with fail
    refine hs.mono ?_
    rintro e w1 ⟨rfl, hb⟩
    have HB1 := Aside0.mk hb
    clear hb hs
    go_wp2_with fail
    refine (hi _ (below_alloc HB1.out _)).mono ?_
    rintro e w2 ⟨rfl, hb⟩
    have HK2 := Aside0.mk (show w2.heap[w1.heap.size]? = some (.cells #[.int .i64 (k 0), .int .i64 (k 1), .int .i64 (k 2), .int .i64 (k 3)] 49 (0, 0)) from (hb.block w1.heap.size (by simp)).trans (heap_alloc_new w1 _))
    have HB2 := Aside0.mk (below_chain (below_alloc HB1.out _) hb)
    clear hb hi HB1
    have r0 := fun o => ((blk_cell (blk_alloc HK2.out o) 0).trans rfl : (World.alloc w2 o).cell? _ = some (.int .i64 (k 0)))
    have f0 := fun o => blk_frozen (blk_alloc HK2.out o) 0
    have r1 := fun o => ((blk_cell (blk_alloc HK2.out o) 1).trans rfl : (World.alloc w2 o).cell? _ = some (.int .i64 (k 1)))
    have f1 := fun o => blk_frozen (blk_alloc HK2.out o) 1
    have r2 := fun o => ((blk_cell (blk_alloc HK2.out o) 2).trans rfl : (World.alloc w2 o).cell? _ = some (.int .i64 (k 2)))
    have f2 := fun o => blk_frozen (blk_alloc HK2.out o) 2
    have r3 := fun o => ((blk_cell (blk_alloc HK2.out o) 3).trans rfl : (World.alloc w2 o).cell? _ = some (.int .i64 (k 3)))
    have f3 := fun o => blk_frozen (blk_alloc HK2.out o) 3
    go_wp2_with fail
    refine (eqKit_same k _).mono ?_
    rintro e w3 ⟨rfl, hb⟩
    have HB3 := Aside0.mk (below_chain (below_alloc HB2.out _) hb)
    clear hb HB2 HK2 r0 r1 r2 r3 f0 f1 f2 f3
    go_wp2_with fail
    go_ret
    exact ⟨rfl, HB3.out⟩
  · have d1 : decide ((1048576 : Int) < (s.size : Int)) = true := decide_eq_true (by omega)
    have d2 : decide (1048576 < s.size) = true := decide_eq_true (by omega)
    clear ht he hm
    go_enter Tryd.func11, Tryd.ntmps11
    go_wp2_with (first | (go_quiet (fail)) | fail)
    go_ret
    exact ⟨rfl, Below.refl _ _⟩
end Go.Proofs.YtidnebhdjkdofaaDoor
