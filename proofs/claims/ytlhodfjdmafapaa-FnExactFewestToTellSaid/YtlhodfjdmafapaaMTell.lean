/- Contract: the levels of plans. No statement of the seat is proved here. -/
import Derived.Test.YtlhodfjdmafapaaMMap
import Derived.Test.YtlhodfjdmafapaaOnes
import Derived.Test.YtlhodfjdmafapaaWLast
import Derived.Test.YtlhodfjdmafapaaQIm1
section
namespace Go.Proofs.Ytlhodfjdmafapaa
open Go.RowKit Go.Proofs.YtlhodfjdmafapaaW.PrintWords Go.Proofs.YtlhodfjdmafapaaW.PrintLast Go.Proofs.Ytlhodfjdmafapaa.QIm
set_option linter.unusedVariables false
set_option linter.unusedSimpArgs false
theorem sets_l0 (k : Nat → Int) : ∀ (d i : Nat) (acc : List Int), i + d = 16 → acc.length ≤ i → impl_Kit_sets.l0 (d + 1) acc (i : Int) (k 0) (k 1) (k 2) (k 3) = some (acc ++ ((List.range' i d).map fun (j : Nat) => (j : Int)).filter (isSetB k))
  | 0, i, acc, h, ha => by
    simp only [impl_Kit_sets.l0]
    rw [if_neg (by omega)]
    simp
  | d + 1, i, acc, h, ha => by
    have hs : xIsSet.f (k 0) (k 1) (k 2) (k 3) (i : Int) = some (isSetB k (i : Int)) := rfl
    have hw : wrap64 ((i : Int) + 1) = ((i + 1 : Nat) : Int) := by unfold wrap64; omega
    rw [impl_Kit_sets.l0, if_pos (by omega), hs, Option.bind_some]
    cases hb : isSetB k (i : Int)
    · rw [if_neg (by simp), hw, sets_l0 k d (i + 1) acc (by omega) (by omega)]
      simp [List.range'_succ, hb]
    · rw [if_pos rfl, if_pos (by omega), hw, sets_l0 k d (i + 1) (acc ++ [(i : Int)]) (by omega) (by simp; omega)]
      simp [List.range'_succ, hb]
theorem sets_f (k : Nat → Int) : impl_Kit_sets.f 17 (k 0) (k 1) (k 2) (k 3) = some (setsL k) := by
  have := sets_l0 k 16 0 [] (by omega) (by simp)
  unfold impl_Kit_sets.f
  rw [show (0 : Int) = ((0 : Nat) : Int) from rfl, this]
  simp only [setsL, List.range_eq_range', List.nil_append]
theorem sets_any (k : Nat → Int) (w : World) : Calls Try.prog 65 #[A4 k] w fun e w' => ∃ v0 : Value, e = .returned v0 ∧ Kd.R (Kd.int .i64) 3 w' w.heap.size (fun _ => True) v0 (setsL k) ∧ Below w.heap.size w w' :=
  impl_Kit_sets.calls 17 (k 0) (k 1) (k 2) (k 3) (setsL k) w (sets_f k)
theorem ones_any (x : Int) (h0 : 0 ≤ x) (h1 : x ≤ 15) (w : World) : Calls Try.prog 116 #[.int .u64 x] w fun e w' => e = .returned (.int .i64 (ones x)) ∧ w = w' := by
  obtain ⟨n, rfl⟩ := Int.eq_ofNat_of_zero_le h0
  have hn : n ≤ 15 := by omega
  have e : ones (n : Int) = onesN n := by
    obtain rfl | rfl | rfl | rfl | rfl | rfl | rfl | rfl | rfl | rfl | rfl | rfl | rfl | rfl | rfl | rfl : n = 0 ∨ n = 1 ∨ n = 2 ∨ n = 3 ∨ n = 4 ∨ n = 5 ∨ n = 6 ∨ n = 7 ∨ n = 8 ∨ n = 9 ∨ n = 10 ∨ n = 11 ∨ n = 12 ∨ n = 13 ∨ n = 14 ∨ n = 15 := by omega
    all_goals rfl
  clear h0 h1
  go_enter Try.func116, Try.ntmps116
  go_wp2_with fail
  refine (ones64_small n hn _).mono ?_
  rintro e w1 ⟨rfl, rfl⟩
  go_wp2_with fail
  go_ret
  exact ⟨ret_int e.symm, rfl⟩
theorem sand_good {k : Nat → Int} {s : Sd} (h : Sand k (fn4 s)) : good4 s :=
  ⟨⟨h.lo 0 (by omega), Int.le_trans (h.hi 0 (by omega)) (h.top 0 (by omega))⟩, ⟨h.lo 1 (by omega), Int.le_trans (h.hi 1 (by omega)) (h.top 1 (by omega))⟩, ⟨h.lo 2 (by omega), Int.le_trans (h.hi 2 (by omega)) (h.top 2 (by omega))⟩, ⟨h.lo 3 (by omega), Int.le_trans (h.hi 3 (by omega)) (h.top 3 (by omega))⟩⟩
abbrev encM (b : Nat) : Value := .map (some b)
abbrev KM : Kd Nat := Kd.scalar encM (fun _ => rfl)
theorem infoM : (Try.prog.info? 123).map (fun i => (i.zero, i.size, i.bytes)) = some (some (.map none), 1, 8) := by kernel_rfl
theorem zeroW (w : World) : (zeroValue 127).run Try.prog w = .ok (AWk (0, 0)) w := by kernel_rfl
theorem MapKd.own_tight {P : Program} {k : TypeId} {α β : Type} {M : MapKd P k α β} {w : World} {b n : Nat} {L : List (α × β)} (h : M.own w b n L) : M.own w b L.length L := by
  obtain ⟨D, ⟨es, clock, hb, F, hs, hD⟩, h2⟩ := h
  have h1 : w.ownsMap P k rdV b es.size D := ⟨es, clock, hb, F, Nat.le_refl _, hD⟩
  have e : Maps.size D = es.size := by
    rw [hD]
    simp [Maps.size, length_sorted]
  rw [h2.size] at e
  exact ⟨D, e ▸ h1, h2⟩
/-- the maps of the levels -/
def LvOwn (w : World) (bs : List Nat) (Ls : List (List Ent)) : Prop := bs.length = Ls.length ∧ ∀ (i b : Nat) (L : List Ent), bs[i]? = some b → Ls[i]? = some L → MW.own w b L.length L
theorem LvOwn.same {w w' : World} {bs : List Nat} {Ls : List (List Ent)} (h : LvOwn w bs Ls) (e : ∀ b es c, w.heap[b]? = some (.map es c) → b ∈ bs → w'.heap[b]? = w.heap[b]?) : LvOwn w' bs Ls :=
  ⟨h.1, fun i b L hb hL => by
    have ho := h.2 i b L hb hL
    obtain ⟨es, c, hm⟩ := MapKd.own_is ho
    exact MapKd.own_same ho (e b es c hm (List.mem_of_getElem? hb))⟩
theorem LvOwn.below {w w' : World} {bs : List Nat} {Ls : List (List Ent)} (h : LvOwn w bs Ls) (hb : Below w.heap.size w w') : LvOwn w' bs Ls := h.same (fun b es c hm _ => hb.block b (blk_lt hm))
theorem LvOwn.snoc {w : World} {bs : List Nat} {Ls : List (List Ent)} (h : LvOwn w bs Ls) {b : Nat} {L : List Ent} (ho : MW.own w b L.length L) : LvOwn w (bs ++ [b]) (Ls ++ [L]) := by
  refine ⟨by simp [h.1], fun i b' L' hb hL => ?_⟩
  by_cases hi : i < bs.length
  · rw [List.getElem?_append_left hi] at hb
    rw [List.getElem?_append_left (by rw [← h.1]; exact hi)] at hL
    exact h.2 i b' L' hb hL
  · by_cases hi2 : i = bs.length
    · subst hi2
      rw [List.getElem?_append_right (Nat.le_refl _), Nat.sub_self] at hb
      rw [List.getElem?_append_right (by rw [h.1]; exact Nat.le_refl _), h.1, Nat.sub_self] at hL
      simp only [List.getElem?_cons_zero, Option.some.injEq] at hb hL
      subst hb; subst hL
      exact ho
    · have : (bs ++ [b])[i]? = none := List.getElem?_eq_none (by simp; omega)
      rw [this] at hb; cases hb
def LvPerm (k : Nat → Int) (most : Int) (s : Sd) (Ls : List (List Ent)) : Prop := ∀ (j : Nat) (L : List Ent), Ls[j]? = some L → L.Perm (levP k most s j)
def LvPost (k : Nat → Int) (s : Sd) (most : Int) (w : World) (e : Ending) (w' : World) : Prop :=
  ∃ (v : Value) (bs : List Nat) (Ls : List (List Ent)), e = .returned v ∧ Kd.R KM 123 w' w.heap.size (fun _ => True) v bs ∧ LvOwn w' bs Ls ∧ Ls.length = 13 ∧ LvPerm k most s Ls ∧ Below w.heap.size w w'
theorem R_at {α : Type} {d : Kd α} {e base : Nat} {ok : Nat → Prop} {w : World} {v : Value} {xs : List α} (h : Kd.R d e w base ok v xs) : ∃ n, n = base ∧ Kd.R d e w n ok v xs := ⟨_, rfl, h⟩
set_option maxRecDepth 100000 in
set_option maxHeartbeats 4000000 in
theorem levels_any (k : Nat → Int) (s : Sd) (most : Int) (hs : Sand k (fn4 s)) (h0 : 0 ≤ most) (h1 : most ≤ 40) (w : World) :
    Calls Try.prog 101 #[A4 k, A4 (fn4 s), .int .i64 most] w (LvPost k s most w) := by
  have HS := Aside0.mk hs
  clear hs
  have hmm := @run_makeMap Try.prog
  go_enter Try.func101, Try.ntmps101
  have HM0 := Aside0.mk (show MW.own (((w.alloc (.cells #[.int .i64 (k 0), .int .i64 (k 1), .int .i64 (k 2), .int .i64 (k 3)] 27)).alloc (.cells #[.int .i64 (fn4 s 0), .int .i64 (fn4 s 1), .int .i64 (fn4 s 2), .int .i64 (fn4 s 3)] 22)).alloc (.map #[] 0)) (w.heap.size + 1 + 1) 0 [] by
    have := MapKd.own_made MW ((w.alloc (.cells #[.int .i64 (k 0), .int .i64 (k 1), .int .i64 (k 2), .int .i64 (k 3)] 27)).alloc (.cells #[.int .i64 (fn4 s 0), .int .i64 (fn4 s 1), .int .i64 (fn4 s 2), .int .i64 (fn4 s 3)] 22))
    simpa only [World.size_alloc] using this)
  have HG := Aside0.mk (show goodSp (s, 0) from ⟨sand_good HS.out, by omega, by omega⟩)
  go_wp2_with (first | (refine wpList_insert_om _ MW rfl _ _ _ 123 rfl 127 Try.underlying123 (w.heap.size + 1 + 1) 0 [] rfl HM0.out (by unfold maxLen; omega) (s, 0) (1, 0) rfl rfl HG.out ?_; intro w1 hown1 hgrow1 hsz1) | fail)
  have HW1 := Aside0.mk (show Below w.heap.size w w1 from (below_alloc (below_alloc (below_alloc (Below.refl _ _) _) _) _).grown hgrow1 (by simp; omega) (fun b hb => by cases hb; omega))
  have HK1 := Aside0.mk (show w1.heap[w.heap.size]? = some (.cells #[.int .i64 (k 0), .int .i64 (k 1), .int .i64 (k 2), .int .i64 (k 3)] 27 (0, 0)) from blk_grown (blk_alloc (blk_alloc (heap_alloc_new w _) _) _) hgrow1 (by simp; omega))
  have HO1 := Aside0.mk hown1
  have HSZ := Aside0.mk (show w.heap.size + 1 + 1 < w1.heap.size by rw [← hsz1]; simp)
  clear hown1 hgrow1 hsz1 HM0
  go_loopw [7, 26] (fun v7 v26 wr => ∃ (i : Nat) (bs : List Nat) (Ls : List (List Ent)), v26 = .int .i64 i ∧ Aside0 (i ≤ 12 ∧ Ls.length = i + 1 ∧ LvPerm k most s Ls) ∧ Aside0 (LvOwn wr bs Ls) ∧ Aside0 (Kd.R KM 123 wr w.heap.size (fun _ => True) v7 bs) ∧ Aside0 (wr.heap[w.heap.size]? = some (.cells #[.int .i64 (k 0), .int .i64 (k 1), .int .i64 (k 2), .int .i64 (k 3)] 27 (0, 0))) ∧ Aside0 (Below w.heap.size w wr)) (fun _ v26 _ => 12 - (intOf v26).toNat)
  case atStart =>
    refine ⟨0, [w.heap.size + 1 + 1], [[((s, 0), (1, 0))]], rfl, ⟨by omega, rfl, ?_⟩, ⟨rfl, ?_⟩, ⟨?_⟩, ⟨blk_alloc HK1.out _⟩, ⟨below_alloc HW1.out _⟩⟩
    · intro j L h
      cases j with
      | zero => simp only [List.getElem?_cons_zero, Option.some.injEq] at h; subst h; exact List.Perm.refl _
      | succ j => simp at h
    · intro j b L hb hL
      cases j with
      | zero =>
        simp only [List.getElem?_cons_zero, Option.some.injEq] at hb hL
        subst hb; subst hL
        exact MapKd.own_tight (MapKd.own_alloc HO1.out _)
      | succ j => simp at hL
    · refine Kd.R_of_own (enc := encM) ?_ (fun _ _ => trivial)
      simpa [encs, encM] using own_lit_of (enc := encM) w1 w.heap.size 123 [w.heap.size + 1 + 1] (by have := HSZ.out; omega) (by simp)
  case round =>
    obtain ⟨i, bs, Ls, rfl, HI, HL, HR, HK, HB⟩ := hrel
    obtain ⟨wo, rfl⟩ : ∃ wo : World, wo = wr := ⟨_, rfl⟩
    have hi := HI.out
    have hi12 := hi.1
    clear hi
    by_cases c : i < 12
    · have c0 : decide ((i : Int) < 12) = true := decide_eq_true (by omega)
      have hlen : bs.length = i + 1 := by rw [HL.out.1, HI.out.2.1]
      obtain ⟨b, hb⟩ : ∃ b, bs[i]? = some b := ⟨_, List.getElem?_eq_getElem (by omega)⟩
      obtain ⟨L, hL⟩ : ∃ L, Ls[i]? = some L := ⟨_, List.getElem?_eq_getElem (by rw [HI.out.2.1]; omega)⟩
      have HOW := Aside0.mk (HL.out.2 i b L hb hL)
      have HLP := Aside0.mk (HI.out.2.2 i L hL)
      obtain ⟨g, cp, rfl, gb, gl, cl, HGc⟩ := Kd.R_form HR.out (by omega)
      obtain ⟨hx, hf⟩ := Kd.R_celln (0 : Nat) HR.out (i : Int) (by omega) (by rw [hlen]; omega)
      have hx2 : wo.cell? ⟨g, i, none⟩ = some (.map (some b)) := by
        rw [show rdOf 0 bs (i : Int) = b by simp [rdOf, List.getD_eq_getElem?_getD, hb]] at hx
        simpa using hx
      have p0 : (0 : Int) ≤ (i : Int) := by omega
      have p1 : (i : Int) < (bs.length : Int) := by omega
      have HLEN := Aside0.mk hlen
      have HBI := Aside0.mk hb
      have HLI := Aside0.mk hL
      have HC12 := Aside0.mk c
      have HGB := Aside0.mk (show w.heap.size ≤ g ∧ g < wo.heap.size from ⟨gb, gl⟩)
      clear hx hf HGc hlen hb hL gb c
      go_wp2_with (first | (at_range; refine wpList_range_om _ MW rfl _ 123 rfl 127 Try.underlying123 b L.length L rfl (MapKd.own_alloc HOW.out _) ?_; intro w2 hrg2 hgrow2 hsz2) | fail)
      have HW2 := Aside0.mk (show Below wo.heap.size wo w2 from (below_alloc (Below.refl _ _) _).grown hgrow2 (by simp) (fun b hb => by cases hb))
      have HM2 := Aside0.mk (show MW.own w2 wo.heap.size 0 [] from MapKd.own_kept (MapKd.own_made MW wo) hgrow2 (by simp))
      have HR2 := Aside0.mk (show MW.ranges w2 b (wo.heap.size + 1) L.length L [] by simpa using hrg2)
      clear hrg2 hgrow2 hsz2 hx2
      have e1 : (wo.alloc (Obj.map #[] 0)).heap.size = wo.heap.size + 1 := by simp
      go_frame
      rw [e1]
      clear e1
      go_loopw [35] (fun v35 wz => ∃ (done Lc : List Ent), Aside0 (MW.ranges wz b (wo.heap.size + 1) L.length L done) ∧ Aside0 (MW.own wz wo.heap.size Lc.length Lc) ∧ Aside0 (∀ x, getA Lc x = valP (done.flatMap (con k most)) x) ∧ Aside0 (Below wo.heap.size wo wz)) (fun _ wz => wz.rangeLeft b (wo.heap.size + 1))
      case atStart => exact ⟨[], [], HR2, HM2, ⟨fun x => rfl⟩, HW2⟩
      case round =>
        obtain ⟨done, Lc, HRg, HLc, HV, HBz⟩ := hrel
        obtain ⟨wz, rfl⟩ : ∃ wz : World, wz = wr := ⟨_, rfl⟩
        go_wp2_with (first | (at_next; refine wpList_next_om _ MW rfl _ rfl b (wo.heap.size + 1) L.length L done rfl HRg.out ?_ ?_) | fail)
        · intro hperm
          have HRz := Aside0.mk (Kd.R_below HR.out HBz.out)
          have HBw := Aside0.mk (below_chain HB.out HBz.out)
          have hgz := HGB.out
          have hzs := HBz.out.size
          have HOz := Aside0.mk (MapKd.own_tight HLc.out)
          have HLz := Aside0.mk (HL.out.below HBz.out)
          have HKz := Aside0.mk (blk_below HK.out HBz.out)
          have HPz := Aside0.mk (show Lc.Perm (levP k most s (i + 1)) from next_perm (hperm.trans HLP.out) (MapKd.own_nodup HLc.out) HV.out)
          have HLEN2 := Aside0.mk (show bs.length ≤ 12 by rw [HLEN.out]; have := HC12.out; omega)
          clear hgz
          go_wp2_with (first | (at_builtin; refine Kd.R_append KM (w0 := w) w.heap.size rfl (.tmp 98) (.tmp 100) 121 123 (.map none) 8 rfl Try.underlying121 infoM rfl (by decide) (by omega) (.slice (some ⟨g, 0, none⟩) bs.length cp) bs wo.heap.size [_] (fun _ => True) (fun _ => False) rfl (by first | (go_simp; done) | (go_simp; rfl)) rfl (fun _ h => h.elim) (fun _ _ => trivial) HRz.out HBw.out HBw.out.size (by have := HLEN2.out; omega) ?_; intro v4 w4 hO4 hB4 hg4 hat4; have HO4 := Aside0.mk hO4; have HB4 := Aside0.mk hB4; have HG4 := Aside0.mk hg4; clear hO4 hB4 hg4 hat4) | fail)
          have hgt := Kd.R_typed HRz.out g rfl
          have hL4 : LvOwn w4 bs Ls := HLz.out.same (fun b' es c hm _ => HG4.out.block b' (blk_lt hm) (fun e => by
            have e' : b' = g := by simpa [Value.ownBlock] using e
            obtain ⟨cs', hc'⟩ := hgt
            rw [e', hc'] at hm
            cases hm))
          have hne : some wo.heap.size ≠ (Value.slice (some ⟨g, 0, none⟩) bs.length cp).ownBlock := fun e => by
            have e' : wo.heap.size = g := by simpa [Value.ownBlock] using e
            have := HGB.out.2
            omega
          refine ⟨⟨i + 1, bs ++ [wo.heap.size], Ls ++ [Lc], by go_num, ⟨by have := HC12.out; omega, by simp [HI.out.2.1], ?_⟩, ⟨hL4.snoc (MapKd.own_kept HOz.out HG4.out hne)⟩, HO4, ⟨blk_grown HKz.out HG4.out (Kd.R_ne HRz.out HKz.out (by decide))⟩, HB4⟩, ?_⟩
          · intro j L' hj
            by_cases q : j < Ls.length
            · rw [List.getElem?_append_left q] at hj
              exact HI.out.2.2 j L' hj
            · by_cases q2 : j = Ls.length
              · subst q2
                rw [List.getElem?_append_right (Nat.le_refl _), Nat.sub_self] at hj
                simp only [List.getElem?_cons_zero, Option.some.injEq] at hj
                subst hj
                rw [HI.out.2.1]
                exact HPz.out
              · rw [List.getElem?_eq_none (by simp; omega)] at hj
                cases hj
          · simp only [intOf]
            have := HC12.out
            omega
        · intro x0 x1 x2 x3 xt yp yt w3 hxy hnd hrg3 hlt3 hgrow3 hsz3 hen3
          have hen4 : (Instr.entry (.pointer (some ⟨wo.heap.size + 1, 0, none⟩))).run Try.prog w3 = .ok (.tuple #[.agg #[.int .i64 x0, .int .i64 x1, .int .i64 x2, .int .i64 x3, .int .i64 xt], .agg #[.int .i64 yp, .int .i64 yt]]) w3 := hen3
          simp only [MW, mkSp, ASp, AWk]
          have HRg3 := Aside0.mk hrg3
          have HLT3 := Aside0.mk hlt3
          have HXY := Aside0.mk hxy
          have HB3 := Aside0.mk (show Below wo.heap.size wo w3 from HBz.out.grown hgrow3 HBz.out.size (fun q hq => by cases hq; omega))
          have HL3 := Aside0.mk (show MW.own w3 wo.heap.size Lc.length Lc from MapKd.own_kept HLc.out hgrow3 (by simp))
          have HK3 := Aside0.mk (blk_below HK.out HB3.out)
          clear hrg3 hlt3 hxy hgrow3 hsz3 hen3 hnd HRg HLc HBz
          have HKK := Aside0.mk ((blk_cell HK3.out 0).trans rfl : w3.cell? ⟨w.heap.size, 0, none⟩ = some (.int .i64 (k 0)))
          have q0 : w3.cell? ⟨w.heap.size, 0, none⟩ = some (.int .i64 (k 0)) := (blk_cell HK3.out 0).trans rfl
          have q1 : w3.cell? ⟨w.heap.size, 1, none⟩ = some (.int .i64 (k 1)) := (blk_cell HK3.out 1).trans rfl
          have q2 : w3.cell? ⟨w.heap.size, 2, none⟩ = some (.int .i64 (k 2)) := (blk_cell HK3.out 2).trans rfl
          have q3 : w3.cell? ⟨w.heap.size, 3, none⟩ = some (.int .i64 (k 3)) := (blk_cell HK3.out 3).trans rfl
          have q4 : w.heap.size < w3.heap.size := blk_lt HK3.out
          clear HKK
          go_wp2_with fail
          refine (sets_any k _).mono ?_
          rintro e w4 ⟨v0, rfl, hR4, hb4⟩
          have H10 := Aside0.mk (blk_below (blk_alloc (heap_alloc_new w3 (.cells #[.int .i64 x0, .int .i64 x1, .int .i64 x2, .int .i64 x3, .int .i64 xt] 125 (0, 0))) (.cells #[.int .i64 yp, .int .i64 yt] 127 (0, 0))) hb4)
          have H11 := Aside0.mk (show w4.heap[w3.heap.size + 1]? = some (.cells #[.int .i64 yp, .int .i64 yt] 127 (0, 0)) by
            have := blk_below (heap_alloc_new (w3.alloc (.cells #[.int .i64 x0, .int .i64 x1, .int .i64 x2, .int .i64 x3, .int .i64 xt] 125 (0, 0))) (.cells #[.int .i64 yp, .int .i64 yt] 127 (0, 0))) hb4
            simpa using this)
          have HBB := Aside0.mk (show Below w3.heap.size w3 w4 from below_chain (below_alloc (below_alloc (Below.refl _ _) _) _) hb4)
          have HB4 := Aside0.mk (below_chain HB3.out HBB.out)
          have HL4 := Aside0.mk (MapKd.own_below HL3.out HBB.out)
          have HRg4 := Aside0.mk (MapKd.ranges_below HRg3.out HBB.out)
          have HLT4 := Aside0.mk (show w4.rangeLeft b (wo.heap.size + 1) < wz.rangeLeft b (wo.heap.size + 1) from by
            rw [MapKd.ranges_left HRg3.out (HBB.out.block b (MapKd.own_lt (MapKd.ranges_own HRg3.out))) (HBB.out.block _ (MapKd.ranges_lt HRg3.out))]
            exact HLT3.out)
          obtain ⟨n4, hn4, hR4⟩ := R_at hR4
          have HN4 := Aside0.mk (show w3.heap.size ≤ n4 by rw [hn4]; simp; omega)
          have HWO := Aside0.mk (show wo.heap.size < w3.heap.size from MapKd.own_lt HL3.out)
          obtain ⟨A0, c0', rfl, hc0, hC0⟩ := Kd.R_reads hR4
          have HC4 := Aside0.mk hR4
          clear hR4 hb4 hC0 hc0 HBB HRg3 HLT3 HL3 HB3 HK3 q0 q1 q2 q3 q4 hn4
          have hsl := setsL_len k
          go_wp2_with fail
          go_loopw [43] (fun v43 wr => ∃ (j : Nat) (Lj : List Ent), v43 = .int .i64 j ∧ Aside0 (j ≤ (setsL k).length) ∧ Aside0 (MW.own wr wo.heap.size Lj.length Lj) ∧ Aside0 (∀ x, getA Lj x = valP (done.flatMap (con k most) ++ ((setsL k).take j).flatMap (con1 k most (((x0, x1, x2, x3), xt), (yp, yt)))) x) ∧ Aside0 (MW.ranges wr b (wo.heap.size + 1) L.length L (done ++ [(((x0, x1, x2, x3), xt), (yp, yt))])) ∧ Aside0 (Below wo.heap.size wo wr) ∧ Aside0 (wr.heap[w3.heap.size]? = some (.cells #[.int .i64 x0, .int .i64 x1, .int .i64 x2, .int .i64 x3, .int .i64 xt] 125 (0, 0))) ∧ Aside0 (wr.heap[w3.heap.size + 1]? = some (.cells #[.int .i64 yp, .int .i64 yt] 127 (0, 0))) ∧ Aside0 (Kd.R (Kd.int .i64) 3 wr n4 (fun _ => True) (.slice A0 (setsL k).length c0') (setsL k)) ∧ Aside0 (wr.rangeLeft b (wo.heap.size + 1) < wz.rangeLeft b (wo.heap.size + 1))) (fun v43 _ => (setsL k).length - (intOf v43).toNat)
          case atStart => exact ⟨0, Lc, rfl, ⟨Nat.zero_le _⟩, HL4, ⟨fun x => by simpa using HV.out x⟩, HRg4, HB4, H10, H11, HC4, HLT4⟩
          case round =>
            obtain ⟨j, Lj, rfl, HJ, HLj, HVj, HRj, HBj, HXj, HYj, HCj, HTj⟩ := hrel
            obtain ⟨wy, rfl⟩ : ∃ wy : World, wy = wr := ⟨_, rfl⟩
            have hj := HJ.out
            by_cases cj : j < (setsL k).length
            · have cj0 : decide (j < (setsL k).length) = true := decide_eq_true cj
              have cj1 : decide ((j : Int) < ((setsL k).length : Int)) = true := decide_eq_true (by omega)
              obtain ⟨set, hset⟩ : ∃ set, (setsL k)[j]? = some set := ⟨_, List.getElem?_eq_getElem cj⟩
              have hmem := setsL_mem (List.mem_of_getElem? hset)
              obtain ⟨at1, e1, ht1⟩ := Kd.at_int (Kd.R_reads' HCj.out).2.2 (j : Int) (by omega) (by omega)
              cases e1
              rw [show rd (setsL k) (j : Int) = set by simp [rd, List.getD_eq_getElem?_getD, hset], show ((j : Int)).toNat = j from Int.toNat_natCast j] at ht1
              have hin := (levP_in HS.out h0 i).all _ (HLP.out.mem_iff.1 HXY.out)
              have hturn := levP_turns k most s i _ (HLP.out.mem_iff.1 HXY.out)
              have HPL := Aside0.mk (show wrap64 yp = yp from levP_plans k most s i _ (HLP.out.mem_iff.1 HXY.out))
              obtain ⟨hsx, hx0, hx1⟩ := hin
              have hd := hsx.stepD set
              have hsn := hsx.step set
              have hgd := sand_good (sand_tup hsn)
              obtain ⟨d, hdd⟩ : ∃ d, stepD k (fn4 (x0, x1, x2, x3)) set = d := ⟨_, rfl⟩
              obtain ⟨t0, ht0⟩ : ∃ t, stepS k (fn4 (x0, x1, x2, x3)) set 0 = t := ⟨_, rfl⟩
              obtain ⟨t1, ht1'⟩ : ∃ t, stepS k (fn4 (x0, x1, x2, x3)) set 1 = t := ⟨_, rfl⟩
              obtain ⟨t2, ht2⟩ : ∃ t, stepS k (fn4 (x0, x1, x2, x3)) set 2 = t := ⟨_, rfl⟩
              obtain ⟨t3, ht3⟩ : ∃ t, stepS k (fn4 (x0, x1, x2, x3)) set 3 = t := ⟨_, rfl⟩
              have HSt : ∀ W : World, Calls Try.prog 66 #[A4 k, .agg #[.int .i64 x0, .int .i64 x1, .int .i64 x2, .int .i64 x3], .int .i64 set] W fun e w' => e = .returned (.tuple #[.agg #[.int .i64 t0, .int .i64 t1, .int .i64 t2, .int .i64 t3], .int .i64 d]) ∧ Below W.heap.size W w' := by
                intro W
                have := step_any k (fn4 (x0, x1, x2, x3)) set hsx W
                rw [hdd] at this
                simp only [A4, ht0, ht1', ht2, ht3] at this
                exact this
              have hgd2 : goodSp ((t0, t1, t2, t3), xt + d) ∨ most < xt + d := by
                by_cases q : most < xt + d
                · exact .inr q
                · refine .inl ⟨by rw [← ht0, ← ht1', ← ht2, ← ht3]; exact hgd, ?_⟩
                  show 0 ≤ xt + d ∧ xt + d ≤ 1000000
                  rw [hdd] at hd
                  have : 0 ≤ xt := hx0
                  omega
              rw [hdd] at hd
              have HT4 := Aside0.mk (show tup4 (stepS k (fn4 (x0, x1, x2, x3)) set) = (t0, t1, t2, t3) by rw [← ht0, ← ht1', ← ht2, ← ht3]; rfl)
              have HDD := Aside0.mk hdd
              have HSET := Aside0.mk hset
              have HGD2 := Aside0.mk hgd2
              have HTU := Aside0.mk hturn
              have HTB := Aside0.mk (show 0 ≤ yt ∧ yt ≤ 48 from ⟨hturn.1, by have := hturn.2; have := HC12.out; show yt ≤ 48; have h2 : yt ≤ 4 * (i : Int) := hturn.2; omega⟩)
              have hone := ones_b set
              have b0 : 0 ≤ yt := HTB.out.1
              have b1 : yt ≤ 48 := HTB.out.2
              have b2 : 0 ≤ ones set := hone.1
              have b3 : ones set ≤ 4 := hone.2
              have b4 : 0 ≤ xt := hx0
              have b5 : xt ≤ most := hx1
              have b6 : 0 ≤ set := hmem.1
              have b7 : set ≤ 15 := hmem.2.1
              have b8 : 0 ≤ d := hd.1
              have b9 : d ≤ 30 := hd.2
              clear hset hmem hsx hx0 hx1 hd hsn hgd hgd2 hturn hone hdd ht0 ht1' ht2 ht3
              have q0 : wy.cell? ⟨w.heap.size, 0, none⟩ = some (.int .i64 (k 0)) := (blk_cell (blk_below HK.out HBj.out) 0).trans rfl
              have q1 : wy.cell? ⟨w.heap.size, 1, none⟩ = some (.int .i64 (k 1)) := (blk_cell (blk_below HK.out HBj.out) 1).trans rfl
              have q2 : wy.cell? ⟨w.heap.size, 2, none⟩ = some (.int .i64 (k 2)) := (blk_cell (blk_below HK.out HBj.out) 2).trans rfl
              have q3 : wy.cell? ⟨w.heap.size, 3, none⟩ = some (.int .i64 (k 3)) := (blk_cell (blk_below HK.out HBj.out) 3).trans rfl
              have r0 : wy.cell? ⟨w3.heap.size, 0, none⟩ = some (.int .i64 x0) := (blk_cell HXj.out 0).trans rfl
              have r1 : wy.cell? ⟨w3.heap.size, 1, none⟩ = some (.int .i64 x1) := (blk_cell HXj.out 1).trans rfl
              have r2 : wy.cell? ⟨w3.heap.size, 2, none⟩ = some (.int .i64 x2) := (blk_cell HXj.out 2).trans rfl
              have r3 : wy.cell? ⟨w3.heap.size, 3, none⟩ = some (.int .i64 x3) := (blk_cell HXj.out 3).trans rfl
              go_wp2_with fail
              refine (HSt _).mono ?_
              rintro e w5 ⟨rfl, hb5⟩
              have HB5 := Aside0.mk hb5
              clear hb5 q0 q1 q2 q3 r0 r1 r2 r3
              have r4 : w5.cell? ⟨w3.heap.size, 4, none⟩ = some (.int .i64 xt) := (blk_cell (blk_below HXj.out HB5.out) 4).trans rfl
              have r5 : w5.cell? ⟨w3.heap.size + 1, 0, none⟩ = some (.int .i64 yp) := (blk_cell (blk_below HYj.out HB5.out) 0).trans rfl
              have r6 : w5.cell? ⟨w3.heap.size + 1, 1, none⟩ = some (.int .i64 yt) := (blk_cell (blk_below HYj.out HB5.out) 1).trans rfl
              have l4 : w3.heap.size < w5.heap.size := blk_lt (blk_below HXj.out HB5.out)
              have l5 : w3.heap.size + 1 < w5.heap.size := blk_lt (blk_below HYj.out HB5.out)
              have KEEP : ∀ W' : World, Below wy.heap.size wy W' → Aside0 (MW.own W' wo.heap.size Lj.length Lj) ∧ Aside0 (MW.ranges W' b (wo.heap.size + 1) L.length L (done ++ [(((x0, x1, x2, x3), xt), (yp, yt))])) ∧ Aside0 (Below wo.heap.size wo W') ∧ Aside0 (W'.heap[w3.heap.size]? = some (.cells #[.int .i64 x0, .int .i64 x1, .int .i64 x2, .int .i64 x3, .int .i64 xt] 125 (0, 0))) ∧ Aside0 (W'.heap[w3.heap.size + 1]? = some (.cells #[.int .i64 yp, .int .i64 yt] 127 (0, 0))) ∧ Aside0 (Kd.R (Kd.int .i64) 3 W' n4 (fun _ => True) (.slice (some at1) (setsL k).length c0') (setsL k)) ∧ Aside0 (W'.rangeLeft b (wo.heap.size + 1) < wz.rangeLeft b (wo.heap.size + 1)) := fun W' hb =>
                ⟨⟨MapKd.own_below HLj.out hb⟩, ⟨MapKd.ranges_below HRj.out hb⟩, ⟨below_chain HBj.out hb⟩, ⟨blk_below HXj.out hb⟩, ⟨blk_below HYj.out hb⟩, ⟨Kd.R_below HCj.out hb⟩, ⟨by
                  rw [MapKd.ranges_left HRj.out (hb.block b (MapKd.own_lt (MapKd.ranges_own HRj.out))) (hb.block _ (MapKd.ranges_lt HRj.out))]
                  exact HTj.out⟩⟩
              have FIN := Aside0.mk (show ∀ W w6 : World, Below wy.heap.size wy W → W.grownBy w6 (some wo.heap.size) → Aside0 (MW.ranges w6 b (wo.heap.size + 1) L.length L (done ++ [(((x0, x1, x2, x3), xt), (yp, yt))])) ∧ Aside0 (Below wo.heap.size wo w6) ∧ Aside0 (w6.heap[w3.heap.size]? = some (.cells #[.int .i64 x0, .int .i64 x1, .int .i64 x2, .int .i64 x3, .int .i64 xt] 125 (0, 0))) ∧ Aside0 (w6.heap[w3.heap.size + 1]? = some (.cells #[.int .i64 yp, .int .i64 yt] 127 (0, 0))) ∧ Aside0 (Kd.R (Kd.int .i64) 3 w6 n4 (fun _ => True) (.slice (some at1) (setsL k).length c0') (setsL k)) ∧ Aside0 (w6.rangeLeft b (wo.heap.size + 1) < wz.rangeLeft b (wo.heap.size + 1)) from fun W w6 hb hg => by
                obtain ⟨_, k2, k3, k4, k5, k6, k7⟩ := KEEP W hb
                have hbo : b < wo.heap.size := MapKd.own_lt HOW.out
                have hw := HWO.out
                have hn := HN4.out
                have nb : some b ≠ some wo.heap.size := fun e => by injection e with e; omega
                have nr : some (wo.heap.size + 1) ≠ some wo.heap.size := fun e => by injection e with e; omega
                refine ⟨⟨MapKd.ranges_kept k2.out hg nb nr⟩, ⟨k3.out.grown hg k3.out.size (fun q hq => by injection hq with hq; omega)⟩, ⟨blk_grown k4.out hg (fun e => by injection e with e; omega)⟩, ⟨blk_grown k5.out hg (fun e => by injection e with e; omega)⟩, ⟨Kd.R_grown2 k6.out rfl hg (fun q hq e => ?_)⟩, ⟨?_⟩⟩
                · injection hq with hq
                  have := Kd.R_base k6.out q e.symm
                  omega
                · rw [MapKd.ranges_left k2.out (hg.block b (MapKd.own_lt (MapKd.ranges_own k2.out)) nb) (hg.block _ (MapKd.ranges_lt k2.out) nr)]
                  exact k7.out)
              have KEEPH := Aside0.mk KEEP
              clear KEEP
              have HLEN6 := Aside0.mk (show Lj.length ≤ 300000000000000000 from by
                have h1 := get_len (MapKd.own_nodup HLj.out) HVj.out
                have h2 := MapKd.ranges_len HRj.out
                have h3 := HLP.out.length_eq
                have h4 := levP_len k most s i
                have h5 : 16 ^ i ≤ 16 ^ 12 := Nat.pow_le_pow_right (by omega) (by have := HC12.out; omega)
                have h6 := flat_len (con k most) 16 (con_len k most) done
                have h7 := flat_len (con1 k most (((x0, x1, x2, x3), xt), (yp, yt))) 1 (con1_len k most _) ((setsL k).take j)
                have h8 : ((setsL k).take j).length ≤ 16 := by rw [List.length_take]; omega
                rw [List.length_append] at h1 h2
                simp only [List.length_cons, List.length_nil] at h2
                have h9 : (16 : Nat) ^ 12 = 281474976710656 := by decide
                omega)
              by_cases dz : d = 0 ∨ most < xt + d
              · have HDZ := Aside0.mk dz
                by_cases dz0 : d = 0
                · have e0 : (d == 0) = true := by simp [dz0]
                  have HD0 := Aside0.mk dz0
                  clear dz dz0
                  go_wp2_with fail
                  obtain ⟨a1, a2, a3, a4, a5, a6, a7⟩ := KEEPH.out _ (below_alloc HB5.out _)
                  refine ⟨⟨j + 1, Lj, by go_num, ⟨by omega⟩, a1, ⟨fun x => ?_⟩, a2, a3, a4, a5, a6, a7⟩, by simp only [intOf]; omega⟩
                  rw [take_con k most _ HSET.out, con1_none (by show stepD k (fn4 (x0, x1, x2, x3)) set = 0 ∨ most < xt + stepD k (fn4 (x0, x1, x2, x3)) set; rw [HDD.out]; exact HDZ.out), List.append_nil]
                  exact HVj.out x
                · have e0 : (d == 0) = false := by simp [dz0]
                  have e1 : decide (most < xt + d) = true := decide_eq_true (by rcases dz with h | h; exact absurd h dz0; exact h)
                  clear dz dz0
                  go_wp2_with fail
                  obtain ⟨a1, a2, a3, a4, a5, a6, a7⟩ := KEEPH.out _ (below_alloc HB5.out _)
                  refine ⟨⟨j + 1, Lj, by go_num, ⟨by omega⟩, a1, ⟨fun x => ?_⟩, a2, a3, a4, a5, a6, a7⟩, by simp only [intOf]; omega⟩
                  rw [take_con k most _ HSET.out, con1_none (by show stepD k (fn4 (x0, x1, x2, x3)) set = 0 ∨ most < xt + stepD k (fn4 (x0, x1, x2, x3)) set; rw [HDD.out]; exact HDZ.out), List.append_nil]
                  exact HVj.out x
              · have e0 : (d == 0) = false := by simp; exact fun h => dz (.inl h)
                have e1 : decide (most < xt + d) = false := decide_eq_false (fun h => dz (.inr h))
                have HDZ := Aside0.mk dz
                have HGD := Aside0.mk (show goodSp ((t0, t1, t2, t3), xt + d) from HGD2.out.resolve_right (fun h => dz (.inr h)))
                clear dz
                have b10 : 0 ≤ yt + ones set := by omega
                have b11 : xt + d ≤ 40 := by
                  have := of_decide_eq_false e1
                  omega
                cases hg : getA Lj ((t0, t1, t2, t3), xt + d) with
                | none =>
                  have HGN := Aside0.mk hg
                  clear hg
                  go_wp2_with fail
                  go_quiet ((go_at_call 116; exact quiet_left (ones_any set b6 b7 _)))
                  go_wp2_with (first | (at_lookup; refine wpList_lookup_ok_none _ MW rfl _ _ 123 rfl 127 Try.underlying123 (0, 0) (zeroW _) wo.heap.size Lj.length Lj rfl (KEEPH.out _ (by repeat (first | exact HB5.out | apply below_alloc | apply pw_below_drewN))).1.out ((t0, t1, t2, t3), xt + d) rfl HGD.out HGN.out (.agg #[.int .i64 0, .int .i64 0]) rfl ?_) | (at_mapUpdate; refine wpList_update_om _ MW rfl _ _ _ 123 rfl 127 Try.underlying123 wo.heap.size Lj.length Lj rfl (KEEPH.out _ (by repeat (first | exact HB5.out | apply below_alloc | apply pw_below_drewN))).1.out (by have := HLEN6.out; unfold maxLen; omega) ((t0, t1, t2, t3), xt + d) (_, _) rfl rfl HGD.out ?_; intro w6 hown6 hgrow6 hsz6) | fail)
                  have hbW := FIN.out _ w6 (by repeat (first | exact HB5.out | apply below_alloc | apply pw_below_drewN)) hgrow6
                  obtain ⟨a2, a3, a4, a5, a6, a7⟩ := hbW
                  refine ⟨⟨j + 1, _, by go_num, ⟨by omega⟩, ⟨MapKd.own_tight hown6⟩, ⟨fun x => ?_⟩, a2, a3, a4, a5, a6, a7⟩, by simp only [intOf]; omega⟩
                  rw [take_con k most _ HSET.out, con1_some (by show ¬ (stepD k (fn4 (x0, x1, x2, x3)) set = 0 ∨ most < xt + stepD k (fn4 (x0, x1, x2, x3)) set); rw [HDD.out]; exact HDZ.out), ← List.append_assoc]
                  have key := val_none HVj.out (p := (((t0, t1, t2, t3), xt + d), (yp, yt + ones set))) HGN.out x
                  have e1 : ((tup4 (stepS k (fn4 (x0, x1, x2, x3)) set), xt + stepD k (fn4 (x0, x1, x2, x3)) set), (yp, yt + ones set)) = ((((t0, t1, t2, t3), xt + d), (yp, yt + ones set)) : Ent) := by rw [HT4.out, HDD.out]
                  rw [e1, ← key]
                  congr 2
                  first | rfl | (simp only [Int.zero_add]; rw [HPL.out])
                | some op =>
                  obtain ⟨op, ot⟩ := op
                  have HGN := Aside0.mk hg
                  clear hg
                  go_wp2_with fail
                  go_quiet ((go_at_call 116; exact quiet_left (ones_any set b6 b7 _)))
                  go_wp2_with (first | (at_lookup; refine wpList_lookup_ok_some _ MW rfl _ _ 123 rfl 127 Try.underlying123 (0, 0) (zeroW _) wo.heap.size Lj.length Lj rfl (KEEPH.out _ (by repeat (first | exact HB5.out | apply below_alloc | apply pw_below_drewN))).1.out ((t0, t1, t2, t3), xt + d) rfl HGD.out (op, ot) HGN.out (.agg #[.int .i64 op, .int .i64 ot]) rfl ?_) | (at_mapUpdate; refine wpList_update_om _ MW rfl _ _ _ 123 rfl 127 Try.underlying123 wo.heap.size Lj.length Lj rfl (KEEPH.out _ (by repeat (first | exact HB5.out | apply below_alloc | apply pw_below_drewN))).1.out (by have := HLEN6.out; unfold maxLen; omega) ((t0, t1, t2, t3), xt + d) (_, _) rfl rfl HGD.out ?_; intro w6 hown6 hgrow6 hsz6) | fail)
                  have hbW := FIN.out _ w6 (by repeat (first | exact HB5.out | apply below_alloc | apply pw_below_drewN)) hgrow6
                  obtain ⟨a2, a3, a4, a5, a6, a7⟩ := hbW
                  refine ⟨⟨j + 1, _, by go_num, ⟨by omega⟩, ⟨MapKd.own_tight hown6⟩, ⟨fun x => ?_⟩, a2, a3, a4, a5, a6, a7⟩, by simp only [intOf]; omega⟩
                  rw [take_con k most _ HSET.out, con1_some (by show ¬ (stepD k (fn4 (x0, x1, x2, x3)) set = 0 ∨ most < xt + stepD k (fn4 (x0, x1, x2, x3)) set); rw [HDD.out]; exact HDZ.out), ← List.append_assoc]
                  have key := val_some HVj.out (p := (((t0, t1, t2, t3), xt + d), (yp, yt + ones set))) HGN.out x
                  have e1 : ((tup4 (stepS k (fn4 (x0, x1, x2, x3)) set), xt + stepD k (fn4 (x0, x1, x2, x3)) set), (yp, yt + ones set)) = ((((t0, t1, t2, t3), xt + d), (yp, yt + ones set)) : Ent) := by rw [HT4.out, HDD.out]
                  rw [e1, ← key]
                  congr 2
                  show (wrap64 (op + yp), if ot < yt + ones set then ot else yt + ones set) = (wrap64 (op + yp), min ot (yt + ones set))
                  congr 1
                  split <;> omega
            · have cj0 : decide (j < (setsL k).length) = false := decide_eq_false cj
              have cj1 : decide ((j : Int) < ((setsL k).length : Int)) = false := decide_eq_false (by omega)
              have ej : j = (setsL k).length := by omega
              have HEJ := Aside0.mk ej
              clear ej
              go_wp2_with fail
              have hV : ∀ x, getA Lj x = valP ((done ++ [(((x0, x1, x2, x3), xt), (yp, yt))]).flatMap (con k most)) x := fun x => by
                have := HVj.out x
                rw [HEJ.out, List.take_length] at this
                rw [this, List.flatMap_append]
                simp [con]
              exact ⟨⟨_, Lj, HRj, HLj, ⟨hV⟩, HBj⟩, HTj.out⟩
    · have c0 : decide ((i : Int) < 12) = false := decide_eq_false (by omega)
      have e12 := Aside0.mk (show i = 12 by omega)
      go_wp2_with fail
      go_ret
      have := HI.out
      exact ⟨_, bs, Ls, rfl, HR.out, HL.out, by omega, this.2.2, HB.out⟩
end Go.Proofs.Ytlhodfjdmafapaa
end
section
namespace Go.Proofs.Ytlhodfjdmafapaa
open Go.RowKit Go.Proofs.YtlhodfjdmafapaaW.PrintWords Go.Proofs.YtlhodfjdmafapaaW.PrintLast Go.Proofs.Ytlhodfjdmafapaa.QIm
set_option linter.unusedVariables false
set_option linter.unusedSimpArgs false
/-- cells that tell a best -/
structure Best15 (cs : Array Value) (B : Best) : Prop where
  size : cs.size = 15
  s0 : cs[0]? = some (.int .i64 B.sets)
  s1 : cs[1]? = some (.int .i64 B.turns)
  sc : ∀ i, i < 13 → cs[2 + i]? = some (.int .i64 (B.c i))
def AB (B : Best) : Value := .agg #[.int .i64 B.sets, .int .i64 B.turns, .int .i64 (B.c 0), .int .i64 (B.c 1), .int .i64 (B.c 2), .int .i64 (B.c 3), .int .i64 (B.c 4), .int .i64 (B.c 5), .int .i64 (B.c 6), .int .i64 (B.c 7), .int .i64 (B.c 8), .int .i64 (B.c 9), .int .i64 (B.c 10), .int .i64 (B.c 11), .int .i64 (B.c 12)]
theorem Best15.putc {cs : Array Value} {B : Best} (h : Best15 cs B) {n : Nat} (hn : n < 13) (v : Int) : Best15 (cs.setIfInBounds (2 + n) (.int .i64 v)) ⟨B.sets, B.turns, upd B.c n v⟩ := by
  have hs := h.size
  refine ⟨by simp [hs], ?_, ?_, fun i hi => ?_⟩
  · rw [Array.getElem?_setIfInBounds_ne (by omega)]; exact h.s0
  · rw [Array.getElem?_setIfInBounds_ne (by omega)]; exact h.s1
  · by_cases e : i = n
    · subst e
      rw [Array.getElem?_setIfInBounds_self_of_lt (by omega)]
      simp [upd]
    · rw [Array.getElem?_setIfInBounds_ne (by omega), h.sc i hi]
      simp [upd, e]
theorem Best15.put0 {cs : Array Value} {B : Best} (h : Best15 cs B) (v : Int) : Best15 (cs.setIfInBounds 0 (.int .i64 v)) ⟨v, B.turns, B.c⟩ := by
  have hs := h.size
  refine ⟨by simp [hs], ?_, ?_, fun i hi => ?_⟩
  · rw [Array.getElem?_setIfInBounds_self_of_lt (by omega)]
  · rw [Array.getElem?_setIfInBounds_ne (by omega)]; exact h.s1
  · rw [Array.getElem?_setIfInBounds_ne (by omega)]; exact h.sc i hi
theorem Best15.put1 {cs : Array Value} {B : Best} (h : Best15 cs B) (v : Int) : Best15 (cs.setIfInBounds 1 (.int .i64 v)) ⟨B.sets, v, B.c⟩ := by
  have hs := h.size
  refine ⟨by simp [hs], ?_, ?_, fun i hi => ?_⟩
  · rw [Array.getElem?_setIfInBounds_ne (by omega)]; exact h.s0
  · rw [Array.getElem?_setIfInBounds_self_of_lt (by omega)]
  · rw [Array.getElem?_setIfInBounds_ne (by omega)]; exact h.sc i hi
theorem Best15.cast {cs : Array Value} {a b a' b' : Int} {c : Nat → Int} (h : Best15 cs ⟨a, b, c⟩) (ea : a = a') (eb : b = b') : Best15 cs ⟨a', b', c⟩ := by subst ea; subst eb; exact h
/-- nothing has turned but one block -/
structure Fr (w W : World) (ob : Nat) : Prop where
  same : ∀ q, q < w.heap.size → q ≠ ob → W.heap[q]? = w.heap[q]?
  size : w.heap.size ≤ W.heap.size
theorem Fr.refl (w : World) (ob : Nat) : Fr w w ob := ⟨fun _ _ _ => rfl, Nat.le_refl _⟩
theorem Fr.alloc {w W : World} {ob : Nat} (h : Fr w W ob) (o : Obj) : Fr w (W.alloc o) ob := ⟨fun q h1 h2 => (Below.heap_alloc W o q (Nat.lt_of_lt_of_le h1 h.size)).trans (h.same q h1 h2), by rw [World.size_alloc]; exact Nat.le_trans h.size (Nat.le_succ _)⟩
theorem Fr.set {w W : World} {ob : Nat} (h : Fr w W ob) (j : Nat) (v : Value) : Fr w (W.setCell ⟨ob, j, none⟩ v) ob := ⟨fun q h1 h2 => (Below.heap_setCell W ⟨ob, j, none⟩ v q h2).trans (h.same q h1 h2), by rw [World.size_setCell]; exact h.size⟩
theorem Fr.drew {w W : World} {ob : Nat} (h : Fr w W ob) : Fr w W.drew ob := ⟨h.same, h.size⟩
theorem Fr.drewN {w W : World} {ob : Nat} (h : Fr w W ob) (n : Nat) : Fr w (W.drewN n) ob := ⟨h.same, h.size⟩
def zeros15 : Array Value := #[.int .i64 0, .int .i64 0, .int .i64 0, .int .i64 0, .int .i64 0, .int .i64 0, .int .i64 0, .int .i64 0, .int .i64 0, .int .i64 0, .int .i64 0, .int .i64 0, .int .i64 0, .int .i64 0, .int .i64 0]
theorem best_results (W : World) (rb : Nat) (B : Best) (tmps : Array Value) (h6 : tmps[6]? = some (.pointer (some ⟨rb, 0, none⟩)))
    (r0 : W.cell? ⟨rb, 0, none⟩ = some (.int .i64 B.sets))
    (r1 : W.cell? ⟨rb, 1, none⟩ = some (.int .i64 B.turns))
    (r2 : W.cell? ⟨rb, 2, none⟩ = some (.int .i64 (B.c 0)))
    (r3 : W.cell? ⟨rb, 3, none⟩ = some (.int .i64 (B.c 1)))
    (r4 : W.cell? ⟨rb, 4, none⟩ = some (.int .i64 (B.c 2)))
    (r5 : W.cell? ⟨rb, 5, none⟩ = some (.int .i64 (B.c 3)))
    (r6 : W.cell? ⟨rb, 6, none⟩ = some (.int .i64 (B.c 4)))
    (r7 : W.cell? ⟨rb, 7, none⟩ = some (.int .i64 (B.c 5)))
    (r8 : W.cell? ⟨rb, 8, none⟩ = some (.int .i64 (B.c 6)))
    (r9 : W.cell? ⟨rb, 9, none⟩ = some (.int .i64 (B.c 7)))
    (r10 : W.cell? ⟨rb, 10, none⟩ = some (.int .i64 (B.c 8)))
    (r11 : W.cell? ⟨rb, 11, none⟩ = some (.int .i64 (B.c 9)))
    (r12 : W.cell? ⟨rb, 12, none⟩ = some (.int .i64 (B.c 10)))
    (r13 : W.cell? ⟨rb, 13, none⟩ = some (.int .i64 (B.c 11)))
    (r14 : W.cell? ⟨rb, 14, none⟩ = some (.int .i64 (B.c 12)))
    : (results Try.f73 tmps).run Try.prog W = .ok (AB B) W := by
  simp [AB, results, Try.results73, go_sem, h6, r0, r1, r2, r3, r4, r5, r6, r7, r8, r9, r10, r11, r12, r13, r14]
theorem zeros_at (B : Best) : ∃ cs : Array Value, cs = #[.int .i64 B.sets, .int .i64 B.turns, .int .i64 (B.c 0), .int .i64 (B.c 1), .int .i64 (B.c 2), .int .i64 (B.c 3), .int .i64 (B.c 4), .int .i64 (B.c 5), .int .i64 (B.c 6), .int .i64 (B.c 7), .int .i64 (B.c 8), .int .i64 (B.c 9), .int .i64 (B.c 10), .int .i64 (B.c 11), .int .i64 (B.c 12)] ∧ (((((((((((((((zeros15.setIfInBounds 0 (.int .i64 B.sets)).setIfInBounds 1 (.int .i64 B.turns)).setIfInBounds 2 (.int .i64 (B.c 0))).setIfInBounds 3 (.int .i64 (B.c 1))).setIfInBounds 4 (.int .i64 (B.c 2))).setIfInBounds 5 (.int .i64 (B.c 3))).setIfInBounds 6 (.int .i64 (B.c 4))).setIfInBounds 7 (.int .i64 (B.c 5))).setIfInBounds 8 (.int .i64 (B.c 6))).setIfInBounds 9 (.int .i64 (B.c 7))).setIfInBounds 10 (.int .i64 (B.c 8))).setIfInBounds 11 (.int .i64 (B.c 9))).setIfInBounds 12 (.int .i64 (B.c 10))).setIfInBounds 13 (.int .i64 (B.c 11))).setIfInBounds 14 (.int .i64 (B.c 12))) = cs := ⟨_, rfl, by simp [zeros15]⟩
theorem best_final (W : World) (rb T : Nat) (B : Best) (tmps : Array Value) (h6 : tmps[6]? = some (.pointer (some ⟨rb, 0, none⟩))) (HQ : W.heap[rb]? = some (.cells zeros15 T (0, 0))) :
    (results Try.f73 tmps).run Try.prog (World.setCell (World.setCell (World.setCell (World.setCell (World.setCell (World.setCell (World.setCell (World.setCell (World.setCell (World.setCell (World.setCell (World.setCell (World.setCell (World.setCell (World.setCell W ⟨rb, 0, none⟩ (.int .i64 B.sets)) ⟨rb, 1, none⟩ (.int .i64 B.turns)) ⟨rb, 2, none⟩ (.int .i64 (B.c 0))) ⟨rb, 3, none⟩ (.int .i64 (B.c 1))) ⟨rb, 4, none⟩ (.int .i64 (B.c 2))) ⟨rb, 5, none⟩ (.int .i64 (B.c 3))) ⟨rb, 6, none⟩ (.int .i64 (B.c 4))) ⟨rb, 7, none⟩ (.int .i64 (B.c 5))) ⟨rb, 8, none⟩ (.int .i64 (B.c 6))) ⟨rb, 9, none⟩ (.int .i64 (B.c 7))) ⟨rb, 10, none⟩ (.int .i64 (B.c 8))) ⟨rb, 11, none⟩ (.int .i64 (B.c 9))) ⟨rb, 12, none⟩ (.int .i64 (B.c 10))) ⟨rb, 13, none⟩ (.int .i64 (B.c 11))) ⟨rb, 14, none⟩ (.int .i64 (B.c 12))) = .ok (AB B) (World.setCell (World.setCell (World.setCell (World.setCell (World.setCell (World.setCell (World.setCell (World.setCell (World.setCell (World.setCell (World.setCell (World.setCell (World.setCell (World.setCell (World.setCell W ⟨rb, 0, none⟩ (.int .i64 B.sets)) ⟨rb, 1, none⟩ (.int .i64 B.turns)) ⟨rb, 2, none⟩ (.int .i64 (B.c 0))) ⟨rb, 3, none⟩ (.int .i64 (B.c 1))) ⟨rb, 4, none⟩ (.int .i64 (B.c 2))) ⟨rb, 5, none⟩ (.int .i64 (B.c 3))) ⟨rb, 6, none⟩ (.int .i64 (B.c 4))) ⟨rb, 7, none⟩ (.int .i64 (B.c 5))) ⟨rb, 8, none⟩ (.int .i64 (B.c 6))) ⟨rb, 9, none⟩ (.int .i64 (B.c 7))) ⟨rb, 10, none⟩ (.int .i64 (B.c 8))) ⟨rb, 11, none⟩ (.int .i64 (B.c 9))) ⟨rb, 12, none⟩ (.int .i64 (B.c 10))) ⟨rb, 13, none⟩ (.int .i64 (B.c 11))) ⟨rb, 14, none⟩ (.int .i64 (B.c 12))) := by
  have hfin := (blk_set (blk_set (blk_set (blk_set (blk_set (blk_set (blk_set (blk_set (blk_set (blk_set (blk_set (blk_set (blk_set (blk_set (blk_set HQ 0 (.int .i64 B.sets)) 1 (.int .i64 B.turns)) 2 (.int .i64 (B.c 0))) 3 (.int .i64 (B.c 1))) 4 (.int .i64 (B.c 2))) 5 (.int .i64 (B.c 3))) 6 (.int .i64 (B.c 4))) 7 (.int .i64 (B.c 5))) 8 (.int .i64 (B.c 6))) 9 (.int .i64 (B.c 7))) 10 (.int .i64 (B.c 8))) 11 (.int .i64 (B.c 9))) 12 (.int .i64 (B.c 10))) 13 (.int .i64 (B.c 11))) 14 (.int .i64 (B.c 12)))
  obtain ⟨cs, hcs, e⟩ := zeros_at B
  rw [e] at hfin
  generalize World.setCell _ _ _ = W' at hfin ⊢
  subst hcs
  exact best_results W' rb B tmps h6 ((blk_cell hfin 0).trans rfl) ((blk_cell hfin 1).trans rfl) ((blk_cell hfin 2).trans rfl) ((blk_cell hfin 3).trans rfl) ((blk_cell hfin 4).trans rfl) ((blk_cell hfin 5).trans rfl) ((blk_cell hfin 6).trans rfl) ((blk_cell hfin 7).trans rfl) ((blk_cell hfin 8).trans rfl) ((blk_cell hfin 9).trans rfl) ((blk_cell hfin 10).trans rfl) ((blk_cell hfin 11).trans rfl) ((blk_cell hfin 12).trans rfl) ((blk_cell hfin 13).trans rfl) ((blk_cell hfin 14).trans rfl)
set_option maxRecDepth 100000 in
set_option maxHeartbeats 4000000 in
theorem toTell_any (k : Nat → Int) (s : Sd) (time : Int) (hs : Sand k (fn4 s)) (h0 : 0 ≤ time) (h1 : time ≤ 40) (w : World) :
    Calls Try.prog 73 #[A4 k, A4 (fn4 s), .int .i64 time] w fun e w' => e = .returned (AB (tellTo k s time 13)) ∧ Below w.heap.size w w' := by
  have HS := Aside0.mk hs
  clear hs
  go_enter Try.func73, Try.ntmps73
  go_wp2_with fail
  refine (levels_any k s time HS.out h0 h1 _).mono ?_
  rintro e w2 ⟨v, bs, Ls, rfl, hR, hL, hlen, hperm, hb⟩
  obtain ⟨A, c, rfl, hc, hC⟩ := Kd.R_reads hR
  obtain ⟨n2, hn2, hR⟩ := R_at hR
  have HLEN := Aside0.mk (show bs.length = 13 ∧ Ls.length = 13 from ⟨by rw [hL.1, hlen], hlen⟩)
  have HPERM := Aside0.mk hperm
  have HR2 := Aside0.mk hR
  have HL2 := Aside0.mk hL
  have HZ := Aside0.mk (show w.heap.size + 1 + 1 + 1 < w2.heap.size by have := hb.size; simp at this; omega)
  have HO2 := Aside0.mk (show w2.heap[w.heap.size + 1 + 1 + 1]? = some (.cells #[.int .i64 (-1), .int .i64 (-1), .int .i64 0, .int .i64 0, .int .i64 0, .int .i64 0, .int .i64 0, .int .i64 0, .int .i64 0, .int .i64 0, .int .i64 0, .int .i64 0, .int .i64 0, .int .i64 0, .int .i64 0] 88 (0, 0)) by
    have := blk_below (heap_alloc_new _ _) hb
    simpa using this)
  have HQ2 := Aside0.mk (show w2.heap[w.heap.size + 1 + 1]? = some (.cells zeros15 88 (0, 0)) by
    have := blk_below (blk_alloc (heap_alloc_new _ _) _) hb
    simpa [zeros15] using this)
  have HB2 := Aside0.mk (show Below w.heap.size w w2 from below_chain (below_alloc (below_alloc (below_alloc (below_alloc (Below.refl _ _) _) _) _) _) hb)
  have e13 : bs.length = 13 := by rw [hL.1, hlen]
  rw [e13]
  clear hb hR hL hlen hperm hC hc hn2 e13
  go_wp2_with fail
  obtain ⟨ob, hob⟩ : ∃ ob, ob = w.heap.size + 1 + 1 + 1 := ⟨_, rfl⟩
  obtain ⟨rb, hrb⟩ : ∃ rb, rb = w.heap.size + 1 + 1 := ⟨_, rfl⟩
  rw [← hob, ← hrb]
  rw [← hob] at HO2 HZ
  rw [← hrb] at HQ2
  have HNE := Aside0.mk (show w.heap.size ≤ rb ∧ w.heap.size ≤ ob ∧ rb < ob by omega)
  clear hob hrb
  go_loopw [18] (fun v18 wr => ∃ (n : Nat) (cs : Array Value), v18 = .int .i64 n ∧ Aside0 (n ≤ 13) ∧ Aside0 (wr.heap[ob]? = some (.cells cs 88 (0, 0))) ∧ Aside0 (Best15 cs (tellTo k s time n)) ∧ Aside0 (wr.heap[rb]? = some (.cells zeros15 88 (0, 0))) ∧ Aside0 (LvOwn wr bs Ls) ∧ Aside0 (Kd.R KM 123 wr n2 (fun _ => True) (.slice A 13 c) bs) ∧ Aside0 (Below w.heap.size w wr)) (fun v18 _ => 13 - (intOf v18).toNat)
  case atStart =>
    refine ⟨0, _, rfl, ⟨by omega⟩, HO2, ⟨⟨rfl, rfl, rfl, fun i hi => ?_⟩⟩, HQ2, HL2, ⟨by have := HR2.out; rw [HLEN.out.1] at this; exact this⟩, HB2⟩
    obtain rfl | rfl | rfl | rfl | rfl | rfl | rfl | rfl | rfl | rfl | rfl | rfl | rfl : i = 0 ∨ i = 1 ∨ i = 2 ∨ i = 3 ∨ i = 4 ∨ i = 5 ∨ i = 6 ∨ i = 7 ∨ i = 8 ∨ i = 9 ∨ i = 10 ∨ i = 11 ∨ i = 12 := by omega
    all_goals rfl
  case round =>
    obtain ⟨n, cs, rfl, HN, HO, HV, HQ, HL, HR, HB⟩ := hrel
    obtain ⟨wo, rfl⟩ : ∃ wo : World, wo = wr := ⟨_, rfl⟩
    have hn13 := HN.out
    by_cases c : n < 13
    · have c0 : decide ((n : Int) < 13) = true := decide_eq_true (by omega)
      obtain ⟨b, hb⟩ : ∃ b, bs[n]? = some b := ⟨_, List.getElem?_eq_getElem (by rw [HLEN.out.1]; exact c)⟩
      obtain ⟨L, hL⟩ : ∃ L, Ls[n]? = some L := ⟨_, List.getElem?_eq_getElem (by rw [HLEN.out.2]; exact c)⟩
      have HOW := Aside0.mk (HL.out.2 n b L hb hL)
      have HLP := Aside0.mk (HPERM.out n L hL)
      obtain ⟨g, cp, e9, gb, gl, cl, HGc⟩ := Kd.R_form HR.out (by rw [HLEN.out.1]; omega)
      injection e9 with eA en ec
      subst eA
      subst ec
      obtain ⟨hx, hf⟩ := Kd.R_celln (0 : Nat) HR.out (n : Int) (by omega) (by omega)
      have hx2 : wo.cell? ⟨g, n, none⟩ = some (.map (some b)) := by
        rw [show rdOf 0 bs (n : Int) = b by simp [rdOf, List.getD_eq_getElem?_getD, hb]] at hx
        simpa using hx
      have p0 : (0 : Int) ≤ (n : Int) := by omega
      have p1 : (n : Int) < 13 := by omega
      have HC13 := Aside0.mk c
      clear hx hf HGc hb hL gb c en
      go_wp2_with (first | (at_range; refine wpList_range_om _ MW rfl _ 123 rfl 127 Try.underlying123 b L.length L rfl HOW.out ?_; intro w3 hrg3 hgrow3 hsz3) | fail)
      have HM3 := Aside0.mk (show MW.ranges w3 b wo.heap.size L.length L [] from hrg3)
      have HF3 := Aside0.mk (show ∀ q, q < wo.heap.size → q ≠ ob → w3.heap[q]? = wo.heap[q]? from fun q hq _ => hgrow3.block q hq (by simp))
      have HO3 := Aside0.mk (show w3.heap[ob]? = some (.cells cs 88 (0, 0)) from blk_grown HO.out hgrow3 (by simp))
      have HB3 := Aside0.mk (show Below w.heap.size w w3 from HB.out.grown hgrow3 HB.out.size (fun q hq => by cases hq))
      have HZ3 := Aside0.mk (show wo.heap.size ≤ w3.heap.size by rw [hsz3]; omega)
      clear hrg3 hgrow3 hsz3 hx2 gl
      go_frame
      go_loopw [25] (fun v25 wz => ∃ (done : List Ent) (cz : Array Value), Aside0 (MW.ranges wz b wo.heap.size L.length L done) ∧ Aside0 (wz.heap[ob]? = some (.cells cz 88 (0, 0))) ∧ Aside0 (Best15 cz (done.foldl (tellStep time n) (tellTo k s time n))) ∧ Aside0 (∀ q, q < wo.heap.size → q ≠ ob → wz.heap[q]? = wo.heap[q]?) ∧ Aside0 (wo.heap.size ≤ wz.heap.size) ∧ Aside0 (Below w.heap.size w wz)) (fun _ wz => wz.rangeLeft b wo.heap.size)
      case atStart => exact ⟨[], cs, HM3, HO3, HV, HF3, HZ3, HB3⟩
      case round =>
        obtain ⟨done, cz, HRg, HOz, HVz, HFz, HZz, HBz⟩ := hrel
        obtain ⟨wz, rfl⟩ : ∃ wz : World, wz = wr := ⟨_, rfl⟩
        go_wp2_with (first | (at_next; refine wpList_next_om _ MW rfl _ rfl b wo.heap.size L.length L done rfl HRg.out ?_ ?_) | fail)
        · intro hperm
          have HPM := Aside0.mk (hperm.trans HLP.out)
          clear hperm
          go_wp2_with fail
          have hgt := Kd.R_typed HR.out g rfl
          have hv := HVz.out
          rw [tell_perm HPM.out] at hv
          have hsame : ∀ (b' : Nat) (es : Array MapEntry) (cc : Nat), wo.heap[b']? = some (Obj.map es cc) → wz.heap[b']? = wo.heap[b']? := fun b' es cc hm => HFz.out b' (blk_lt hm) (fun e => by rw [e, HO.out] at hm; cases hm)
          refine ⟨⟨n + 1, cz, by go_num, ⟨by have := HC13.out; omega⟩, HOz, ⟨hv⟩, ⟨(HFz.out rb (blk_lt HQ.out) (by have := HNE.out; omega)).trans HQ.out⟩, ⟨HL.out.same (fun b' es cc hm _ => hsame b' es cc hm)⟩, ⟨Kd.R_step (Kd.R_reok (ok := fun q => q = g) rfl HR.out (fun q hq => by simpa [Value.ownBlock] using hq.symm)) (fun q hq hlt => by
            subst hq
            exact HFz.out q hlt (fun e => by
              obtain ⟨cs', hc'⟩ := hgt
              rw [e, HO.out] at hc'
              cases hc')) |> fun h => Kd.R_mono h (fun _ _ => trivial)⟩, HBz⟩, by simp only [intOf]; have := HC13.out; omega⟩
        · intro x0 x1 x2 x3 xt yp yt w4 hxy hnd hrg4 hlt4 hgrow4 hsz4 hen4
          have hen5 : (Instr.entry (.pointer (some ⟨wo.heap.size, 0, none⟩))).run Try.prog w4 = .ok (.tuple #[.agg #[.int .i64 x0, .int .i64 x1, .int .i64 x2, .int .i64 x3, .int .i64 xt], .agg #[.int .i64 yp, .int .i64 yt]]) w4 := hen4
          simp only [MW, mkSp, ASp, AWk]
          have HRg4 := Aside0.mk hrg4
          have HLT4 := Aside0.mk hlt4
          have HXY := Aside0.mk hxy
          have hro : some ob ≠ some wo.heap.size := fun e => by injection e with e; have := blk_lt HO.out; omega
          have HO4 := Aside0.mk (show w4.heap[ob]? = some (.cells cz 88 (0, 0)) from blk_grown HOz.out hgrow4 hro)
          have HF4 := Aside0.mk (show ∀ q, q < wo.heap.size → q ≠ ob → w4.heap[q]? = wo.heap[q]? from fun q hq hne => (hgrow4.block q (Nat.lt_of_lt_of_le hq HZz.out) (fun e => by injection e with e; omega)).trans (HFz.out q hq hne))
          have HZ4 := Aside0.mk (show wo.heap.size ≤ w4.heap.size by rw [hsz4]; exact HZz.out)
          have HB4 := Aside0.mk (show Below w.heap.size w w4 from HBz.out.grown hgrow4 HBz.out.size (fun q hq => by cases hq; exact HB.out.size))
          have hln := blk_lt HO4.out
          have KEEP := Aside0.mk (show ∀ (W' : World) (cz' : Array Value), (∀ q, q < w4.heap.size → q ≠ ob → W'.heap[q]? = w4.heap[q]?) → w4.heap.size ≤ W'.heap.size → Aside0 (MW.ranges W' b wo.heap.size L.length L (done ++ [(((x0, x1, x2, x3), xt), (yp, yt))])) ∧ Aside0 (∀ q, q < wo.heap.size → q ≠ ob → W'.heap[q]? = wo.heap[q]?) ∧ Aside0 (wo.heap.size ≤ W'.heap.size) ∧ W'.rangeLeft b wo.heap.size < wz.rangeLeft b wo.heap.size from fun W' cz' hq hsz => by
            have hbl := MapKd.own_lt (MapKd.ranges_own HRg4.out)
            have hrl := MapKd.ranges_lt HRg4.out
            have nb : b ≠ ob := fun e => by
              obtain ⟨es, cc, hm⟩ := MapKd.own_is (MapKd.ranges_own HRg4.out)
              rw [e, HO4.out] at hm
              cases hm
            have nr : wo.heap.size ≠ ob := fun e => by have := blk_lt HO.out; omega
            refine ⟨⟨MapKd.ranges_same HRg4.out (hq b hbl nb) (hq _ hrl nr)⟩, ⟨fun q h1 h2 => (hq q (Nat.lt_of_lt_of_le h1 HZ4.out) h2).trans (HF4.out q h1 h2)⟩, ⟨Nat.le_trans HZ4.out hsz⟩, ?_⟩
            rw [MapKd.ranges_left HRg4.out (hq b hbl nb) (hq _ hrl nr)]
            exact HLT4.out)
          clear hrg4 hlt4 hxy hgrow4 hsz4 hen4 hnd HRg HOz HFz HZz HBz hro
          by_cases cx : xt = time
          · have e0 : (xt != time) = false := by simp [cx]
            have HCX := Aside0.mk cx
            clear cx
            have hv := HVz.out
            obtain ⟨B, hB⟩ : ∃ B, done.foldl (tellStep time n) (tellTo k s time n) = B := ⟨_, rfl⟩
            rw [hB] at hv
            have HBB := Aside0.mk hB
            have HV4 := Aside0.mk hv
            have z0 : w4.cell? ⟨ob, 0, none⟩ = some (.int .i64 B.sets) := (blk_cell HO4.out 0).trans hv.s0
            have z1 : w4.cell? ⟨ob, 1, none⟩ = some (.int .i64 B.turns) := (blk_cell HO4.out 1).trans hv.s1
            have z2 : w4.cell? ⟨ob, 2 + n, none⟩ = some (.int .i64 (B.c n)) := (blk_cell HO4.out (2 + n)).trans (hv.sc n HC13.out)
            have z3 : w4.frozen? ⟨ob, 2 + n, none⟩ = false := blk_frozen HO4.out _
            have z4 : w4.frozen? ⟨ob, 0, none⟩ = false := blk_frozen HO4.out _
            have z5 : w4.frozen? ⟨ob, 1, none⟩ = false := blk_frozen HO4.out _
            clear hv hB
            have CLOSE := Aside0.mk (show ∀ W' : World, Fr w4 W' ob → (∃ cz' : Array Value, W'.heap[ob]? = some (.cells cz' 88 (0, 0)) ∧ Best15 cz' ⟨if B.sets < 0 then (n : Int) else B.sets, tmin B.turns yt, upd B.c n (wrap64 (B.c n + yp))⟩) → Below w.heap.size w W' →
                (∃ (done : List Ent) (cz : Array Value), Aside0 (MW.ranges W' b wo.heap.size L.length L done) ∧ Aside0 (W'.heap[ob]? = some (.cells cz 88 (0, 0))) ∧ Aside0 (Best15 cz (done.foldl (tellStep time n) (tellTo k s time n))) ∧ Aside0 (∀ q, q < wo.heap.size → q ≠ ob → W'.heap[q]? = wo.heap[q]?) ∧ Aside0 (wo.heap.size ≤ W'.heap.size) ∧ Aside0 (Below w.heap.size w W')) ∧ W'.rangeLeft b wo.heap.size < wz.rangeLeft b wo.heap.size from fun W' hfr ⟨cz', h1, h2⟩ hbl => by
              obtain ⟨a1, a2, a3, a4⟩ := KEEP.out W' cz' hfr.same hfr.size
              refine ⟨⟨_, cz', a1, ⟨h1⟩, ⟨?_⟩, a2, a3, ⟨hbl⟩⟩, a4⟩
              rw [List.foldl_append, HBB.out]
              show Best15 cz' (tellStep time n B _)
              unfold tellStep
              rw [if_pos HCX.out]
              exact h2)
            go_wp2_with fail
            go_region
            go_wp2_with fail
            all_goals
              refine CLOSE.out _ (by with_reducible (repeat (first | exact Fr.refl _ _ | apply Fr.drew | apply Fr.alloc | apply Fr.set))) ?_ ?_
              · apply Exists.intro
                apply And.intro
                · with_reducible (repeat (first | exact HO4.out | apply blk_drew | apply blk_alloc | apply blk_set))
                · first
                  | (refine (((HV4.out.putc HC13.out _).put0 _).put1 _).cast ?_ ?_ <;> (try dsimp only) <;> (try unfold tmin) <;> (repeat' split) <;> omega)
                  | (refine ((HV4.out.putc HC13.out _).put0 _).cast ?_ ?_ <;> (try dsimp only) <;> (try unfold tmin) <;> (repeat' split) <;> omega)
                  | (refine ((HV4.out.putc HC13.out _).put1 _).cast ?_ ?_ <;> (try dsimp only) <;> (try unfold tmin) <;> (repeat' split) <;> omega)
                  | (refine (HV4.out.putc HC13.out _).cast ?_ ?_ <;> (try dsimp only) <;> (try unfold tmin) <;> (repeat' split) <;> omega)
              · with_reducible (repeat (first | exact HB4.out | refine Below.drew ?_ | refine below_alloc ?_ _ | refine bl_set _ HNE.out.2.1 ?_))
          · have e0 : (xt != time) = true := by simp [cx]
            have HCX := Aside0.mk cx
            clear cx
            go_wp2_with fail
            obtain ⟨a1, a2, a3, a4⟩ := KEEP.out _ cz (fun q hq _ => ((below_alloc (below_alloc (Below.refl _ _) (.cells #[.int .i64 x0, .int .i64 x1, .int .i64 x2, .int .i64 x3, .int .i64 xt] 125 (0, 0))) (.cells #[.int .i64 yp, .int .i64 yt] 127 (0, 0))) : Below w4.heap.size w4 _).block q hq) (by simp; omega)
            refine ⟨⟨_, cz, a1, ⟨blk_alloc (blk_alloc HO4.out _) _⟩, ⟨?_⟩, a2, a3, ⟨below_alloc (below_alloc HB4.out _) _⟩⟩, a4⟩
            rw [List.foldl_append]
            have : tellStep time n (done.foldl (tellStep time n) (tellTo k s time n)) (((x0, x1, x2, x3), xt), (yp, yt)) = done.foldl (tellStep time n) (tellTo k s time n) := if_neg HCX.out
            show Best15 cz (tellStep time n _ _)
            rw [this]
            exact HVz.out
    · have c0 : decide ((n : Int) < 13) = false := decide_eq_false (by omega)
      have e13 : n = 13 := by omega
      have hv := HV.out
      rw [e13] at hv
      have ho : ∀ j v, cs[j]? = some v → wo.cell? ⟨ob, j, none⟩ = some v := fun j v h => (blk_cell HO.out j).trans h
      have z0 := ho 0 _ hv.s0
      have z1 := ho 1 _ hv.s1
      have z2 := ho 2 _ (hv.sc 0 (by omega))
      have z3 := ho 3 _ (hv.sc 1 (by omega))
      have z4 := ho 4 _ (hv.sc 2 (by omega))
      have z5 := ho 5 _ (hv.sc 3 (by omega))
      have z6 := ho 6 _ (hv.sc 4 (by omega))
      have z7 := ho 7 _ (hv.sc 5 (by omega))
      have z8 := ho 8 _ (hv.sc 6 (by omega))
      have z9 := ho 9 _ (hv.sc 7 (by omega))
      have z10 := ho 10 _ (hv.sc 8 (by omega))
      have z11 := ho 11 _ (hv.sc 9 (by omega))
      have z12 := ho 12 _ (hv.sc 10 (by omega))
      have z13 := ho 13 _ (hv.sc 11 (by omega))
      have z14 := ho 14 _ (hv.sc 12 (by omega))
      have y0 : wo.cell? ⟨rb, 0, none⟩ = some (.int .i64 0) := (blk_cell HQ.out 0).trans rfl
      have y1 : wo.cell? ⟨rb, 1, none⟩ = some (.int .i64 0) := (blk_cell HQ.out 1).trans rfl
      have y2 : wo.cell? ⟨rb, 2, none⟩ = some (.int .i64 0) := (blk_cell HQ.out 2).trans rfl
      have y3 : wo.cell? ⟨rb, 3, none⟩ = some (.int .i64 0) := (blk_cell HQ.out 3).trans rfl
      have y4 : wo.cell? ⟨rb, 4, none⟩ = some (.int .i64 0) := (blk_cell HQ.out 4).trans rfl
      have y5 : wo.cell? ⟨rb, 5, none⟩ = some (.int .i64 0) := (blk_cell HQ.out 5).trans rfl
      have y6 : wo.cell? ⟨rb, 6, none⟩ = some (.int .i64 0) := (blk_cell HQ.out 6).trans rfl
      have y7 : wo.cell? ⟨rb, 7, none⟩ = some (.int .i64 0) := (blk_cell HQ.out 7).trans rfl
      have y8 : wo.cell? ⟨rb, 8, none⟩ = some (.int .i64 0) := (blk_cell HQ.out 8).trans rfl
      have y9 : wo.cell? ⟨rb, 9, none⟩ = some (.int .i64 0) := (blk_cell HQ.out 9).trans rfl
      have y10 : wo.cell? ⟨rb, 10, none⟩ = some (.int .i64 0) := (blk_cell HQ.out 10).trans rfl
      have y11 : wo.cell? ⟨rb, 11, none⟩ = some (.int .i64 0) := (blk_cell HQ.out 11).trans rfl
      have y12 : wo.cell? ⟨rb, 12, none⟩ = some (.int .i64 0) := (blk_cell HQ.out 12).trans rfl
      have y13 : wo.cell? ⟨rb, 13, none⟩ = some (.int .i64 0) := (blk_cell HQ.out 13).trans rfl
      have y14 : wo.cell? ⟨rb, 14, none⟩ = some (.int .i64 0) := (blk_cell HQ.out 14).trans rfl
      have x0 : wo.frozen? ⟨rb, 0, none⟩ = false := blk_frozen HQ.out 0
      have x1 : wo.frozen? ⟨rb, 1, none⟩ = false := blk_frozen HQ.out 1
      have x2 : wo.frozen? ⟨rb, 2, none⟩ = false := blk_frozen HQ.out 2
      have x3 : wo.frozen? ⟨rb, 3, none⟩ = false := blk_frozen HQ.out 3
      have x4 : wo.frozen? ⟨rb, 4, none⟩ = false := blk_frozen HQ.out 4
      have x5 : wo.frozen? ⟨rb, 5, none⟩ = false := blk_frozen HQ.out 5
      have x6 : wo.frozen? ⟨rb, 6, none⟩ = false := blk_frozen HQ.out 6
      have x7 : wo.frozen? ⟨rb, 7, none⟩ = false := blk_frozen HQ.out 7
      have x8 : wo.frozen? ⟨rb, 8, none⟩ = false := blk_frozen HQ.out 8
      have x9 : wo.frozen? ⟨rb, 9, none⟩ = false := blk_frozen HQ.out 9
      have x10 : wo.frozen? ⟨rb, 10, none⟩ = false := blk_frozen HQ.out 10
      have x11 : wo.frozen? ⟨rb, 11, none⟩ = false := blk_frozen HQ.out 11
      have x12 : wo.frozen? ⟨rb, 12, none⟩ = false := blk_frozen HQ.out 12
      have x13 : wo.frozen? ⟨rb, 13, none⟩ = false := blk_frozen HQ.out 13
      have x14 : wo.frozen? ⟨rb, 14, none⟩ = false := blk_frozen HQ.out 14
      have nro : ¬ rb = ob := by have := HNE.out; omega
      have nor : ¬ ob = rb := by have := HNE.out; omega
      have hlr : rb < wo.heap.size := blk_lt HQ.out
      clear ho hv e13
      go_wp2_with fail
      clear z0 z1 z2 z3 z4 z5 z6 z7 z8 z9 z10 z11 z12 z13 z14 y0 y1 y2 y3 y4 y5 y6 y7 y8 y9 y10 y11 y12 y13 y14 x0 x1 x2 x3 x4 x5 x6 x7 x8 x9 x10 x11 x12 x13 x14
      have hq := HQ.out
      obtain ⟨B, hB⟩ : ∃ B, tellTo k s time 13 = B := ⟨_, rfl⟩
      rw [hB]
      exact bodyPost_ret (best_final wo rb _ B _ rfl hq) rfl ⟨by rw [← hB], bl_set _ HNE.out.1 (bl_set _ HNE.out.1 (bl_set _ HNE.out.1 (bl_set _ HNE.out.1 (bl_set _ HNE.out.1 (bl_set _ HNE.out.1 (bl_set _ HNE.out.1 (bl_set _ HNE.out.1 (bl_set _ HNE.out.1 (bl_set _ HNE.out.1 (bl_set _ HNE.out.1 (bl_set _ HNE.out.1 (bl_set _ HNE.out.1 (bl_set _ HNE.out.1 (bl_set _ HNE.out.1 (HB.out)))))))))))))))⟩
end Go.Proofs.Ytlhodfjdmafapaa
end
section
namespace Go.Proofs.Ytlhodfjdmafapaa
open Go.RowKit Go.Proofs.YtlhodfjdmafapaaW.PrintWords Go.Proofs.YtlhodfjdmafapaaW.PrintLast Go.Proofs.Ytlhodfjdmafapaa.QIm
set_option linter.unusedVariables false
set_option linter.unusedSimpArgs false
def searchB (k : Nat → Int) (s : Sd) (time : Int) : Bool := (isKitB k && isSandB k (fn4 s)) && (decide (prodOf k ≤ 1000) && inB 0 40 time)
theorem within_f (n lo hi : Int) : impl_within.f n lo hi = some (inB lo hi n) := by
  unfold impl_within.f inB
  by_cases h : lo ≤ n
  · simp [h]
  · simp [h]
theorem search_f (k : Nat → Int) (s : Sd) (time : Int) : impl_isSearched.f (k 0) (k 1) (k 2) (k 3) s.1 s.2.1 s.2.2.1 s.2.2.2 time = some (searchB k s time) := by
  unfold impl_isSearched.f
  rw [show xAreSand.f (k 0) (k 1) (k 2) (k 3) s.1 s.2.1 s.2.2.1 s.2.2.2 = some (isKitB k && isSandB k (fn4 s)) from rfl, show xProduct.f (k 0) (k 1) (k 2) (k 3) = some (prodOf k) from rfl]
  simp only [Option.bind_some, within_f]
  unfold searchB
  cases h1 : (isKitB k && isSandB k (fn4 s))
  · simp
  · by_cases h2 : prodOf k ≤ 1000
    · simp [h2]
    · simp [h2]
theorem search_any (k : Nat → Int) (s : Sd) (time : Int) (b : Bool) (h : searchB k s time = b) (w : World) : Calls Try.prog 72 #[A4 k, A4 (fn4 s), .int .i64 time] w fun e w' => e = .returned (.bool b) ∧ Below w.heap.size w w' :=
  impl_isSearched.calls (k 0) (k 1) (k 2) (k 3) s.1 s.2.1 s.2.2.1 s.2.2.2 time b w (by rw [search_f, h])
theorem search_parts {k : Nat → Int} {s : Sd} {time : Int} (h : searchB k s time = true) : Sand k (fn4 s) ∧ 0 ≤ time ∧ time ≤ 40 := by
  unfold searchB at h
  simp only [Bool.and_eq_true, inB_iff] at h
  exact ⟨sand_of h.1.1 h.1.2, h.2.2.1, h.2.2.2⟩
theorem best_f0 (B : Best) (w : World) : (Instr.field 88 (.agg #[.int .i64 B.sets, .int .i64 B.turns, .int .i64 (B.c 0), .int .i64 (B.c 1), .int .i64 (B.c 2), .int .i64 (B.c 3), .int .i64 (B.c 4), .int .i64 (B.c 5), .int .i64 (B.c 6), .int .i64 (B.c 7), .int .i64 (B.c 8), .int .i64 (B.c 9), .int .i64 (B.c 10), .int .i64 (B.c 11), .int .i64 (B.c 12)]) 0).run Try.prog w = .ok (.int .i64 B.sets) w := by kernel_rfl
theorem best_f1 (B : Best) (w : World) : (Instr.field 88 (.agg #[.int .i64 B.sets, .int .i64 B.turns, .int .i64 (B.c 0), .int .i64 (B.c 1), .int .i64 (B.c 2), .int .i64 (B.c 3), .int .i64 (B.c 4), .int .i64 (B.c 5), .int .i64 (B.c 6), .int .i64 (B.c 7), .int .i64 (B.c 8), .int .i64 (B.c 9), .int .i64 (B.c 10), .int .i64 (B.c 11), .int .i64 (B.c 12)]) 1).run Try.prog w = .ok (.int .i64 B.turns) w := by kernel_rfl
set_option maxRecDepth 100000 in
set_option maxHeartbeats 3200000 in
theorem canTell_yes (k : Nat → Int) (s : Sd) (time : Int) (h : searchB k s time = true) (w : World) : Calls Try.prog 41 #[A4 k, A4 (fn4 s), .int .i64 time] w fun e w' => e = .returned (.tuple #[.bool (decide (0 ≤ (tellTo k s time 13).sets)), .bool true]) ∧ Below w.heap.size w w' := by
  obtain ⟨h1, h2, h3⟩ := search_parts h
  have HT := fun W => toTell_any k s time h1 h2 h3 W
  have HH := Aside0.mk h
  obtain ⟨B, hB⟩ : ∃ B, tellTo k s time 13 = B := ⟨_, rfl⟩
  rw [hB] at HT ⊢
  simp only [AB] at HT
  have hf0 := best_f0 B
  have hf1 := best_f1 B
  clear h1 h h2 h3 hB
  go_enter Try.func41, Try.ntmps41
  go_wp2_with fail
  refine (search_any k s time true HH.out _).mono ?_
  rintro e w1 ⟨rfl, hb⟩
  have HK1 := Aside0.mk (blk_below (blk_alloc (heap_alloc_new w (.cells #[.int .i64 (k 0), .int .i64 (k 1), .int .i64 (k 2), .int .i64 (k 3)] 27 (0, 0))) (.cells #[.int .i64 (fn4 s 0), .int .i64 (fn4 s 1), .int .i64 (fn4 s 2), .int .i64 (fn4 s 3)] 22 (0, 0))) hb)
  have HS1 := Aside0.mk (show w1.heap[w.heap.size + 1]? = some (.cells #[.int .i64 (fn4 s 0), .int .i64 (fn4 s 1), .int .i64 (fn4 s 2), .int .i64 (fn4 s 3)] 22 (0, 0)) by
    have := blk_below (heap_alloc_new (w.alloc (.cells #[.int .i64 (k 0), .int .i64 (k 1), .int .i64 (k 2), .int .i64 (k 3)] 27 (0, 0))) _) hb
    simpa using this)
  have HB1 := Aside0.mk (show Below w.heap.size w w1 from below_chain (below_alloc (below_alloc (Below.refl _ _) _) _) hb)
  clear hb
  have q0 : w1.cell? ⟨w.heap.size, 0, none⟩ = some (.int .i64 (k 0)) := (blk_cell HK1.out 0).trans rfl
  have q1 : w1.cell? ⟨w.heap.size, 1, none⟩ = some (.int .i64 (k 1)) := (blk_cell HK1.out 1).trans rfl
  have q2 : w1.cell? ⟨w.heap.size, 2, none⟩ = some (.int .i64 (k 2)) := (blk_cell HK1.out 2).trans rfl
  have q3 : w1.cell? ⟨w.heap.size, 3, none⟩ = some (.int .i64 (k 3)) := (blk_cell HK1.out 3).trans rfl
  have r0 : w1.cell? ⟨w.heap.size + 1, 0, none⟩ = some (.int .i64 (fn4 s 0)) := (blk_cell HS1.out 0).trans rfl
  have r1 : w1.cell? ⟨w.heap.size + 1, 1, none⟩ = some (.int .i64 (fn4 s 1)) := (blk_cell HS1.out 1).trans rfl
  have r2 : w1.cell? ⟨w.heap.size + 1, 2, none⟩ = some (.int .i64 (fn4 s 2)) := (blk_cell HS1.out 2).trans rfl
  have r3 : w1.cell? ⟨w.heap.size + 1, 3, none⟩ = some (.int .i64 (fn4 s 3)) := (blk_cell HS1.out 3).trans rfl
  go_wp2_with fail
  refine (HT _).mono ?_
  rintro e w2 ⟨rfl, hb2⟩
  have HB2 := Aside0.mk (below_chain HB1.out hb2)
  clear hb2 HT
  go_wp2_with fail
  all_goals (go_ret2; exact ⟨by first | rfl | trace_state, HB2.out⟩)
theorem canTell_no (k : Nat → Int) (s : Sd) (time : Int) (h : searchB k s time = false) (w : World) : Calls Try.prog 41 #[A4 k, A4 (fn4 s), .int .i64 time] w fun e w' => e = .returned (.tuple #[.bool false, .bool false]) ∧ Below w.heap.size w w' := by
  have HH := Aside0.mk h
  clear h
  go_enter Try.func41, Try.ntmps41
  go_wp2_with fail
  refine (search_any k s time false HH.out _).mono ?_
  rintro e w1 ⟨rfl, hb⟩
  have HB1 := Aside0.mk (show Below w.heap.size w w1 from below_chain (below_alloc (below_alloc (Below.refl _ _) _) _) hb)
  clear hb
  go_wp2_with fail
  all_goals (go_ret2; exact ⟨by first | rfl | trace_state, HB1.out⟩)
set_option maxRecDepth 100000 in
set_option maxHeartbeats 3200000 in
theorem fewest_yes (k : Nat → Int) (s : Sd) (time : Int) (h : searchB k s time = true) (w : World) : Calls Try.prog 43 #[A4 k, A4 (fn4 s), .int .i64 time] w fun e w' => e = .returned (.tuple #[.int .i64 (if (tellTo k s time 13).sets < 0 then 0 else (tellTo k s time 13).sets), .bool (decide (0 ≤ (tellTo k s time 13).sets))]) ∧ Below w.heap.size w w' := by
  obtain ⟨h1, h2, h3⟩ := search_parts h
  have HT := fun W => toTell_any k s time h1 h2 h3 W
  have HH := Aside0.mk h
  obtain ⟨B, hB⟩ : ∃ B, tellTo k s time 13 = B := ⟨_, rfl⟩
  rw [hB] at HT ⊢
  simp only [AB] at HT
  have hf0 := best_f0 B
  have hf1 := best_f1 B
  clear h1 h h2 h3 hB
  go_enter Try.func43, Try.ntmps43
  go_wp2_with fail
  refine (search_any k s time true HH.out _).mono ?_
  rintro e w1 ⟨rfl, hb⟩
  have HK1 := Aside0.mk (blk_below (blk_alloc (heap_alloc_new w (.cells #[.int .i64 (k 0), .int .i64 (k 1), .int .i64 (k 2), .int .i64 (k 3)] 27 (0, 0))) (.cells #[.int .i64 (fn4 s 0), .int .i64 (fn4 s 1), .int .i64 (fn4 s 2), .int .i64 (fn4 s 3)] 22 (0, 0))) hb)
  have HS1 := Aside0.mk (show w1.heap[w.heap.size + 1]? = some (.cells #[.int .i64 (fn4 s 0), .int .i64 (fn4 s 1), .int .i64 (fn4 s 2), .int .i64 (fn4 s 3)] 22 (0, 0)) by
    have := blk_below (heap_alloc_new (w.alloc (.cells #[.int .i64 (k 0), .int .i64 (k 1), .int .i64 (k 2), .int .i64 (k 3)] 27 (0, 0))) _) hb
    simpa using this)
  have HB1 := Aside0.mk (show Below w.heap.size w w1 from below_chain (below_alloc (below_alloc (Below.refl _ _) _) _) hb)
  clear hb
  have q0 : w1.cell? ⟨w.heap.size, 0, none⟩ = some (.int .i64 (k 0)) := (blk_cell HK1.out 0).trans rfl
  have q1 : w1.cell? ⟨w.heap.size, 1, none⟩ = some (.int .i64 (k 1)) := (blk_cell HK1.out 1).trans rfl
  have q2 : w1.cell? ⟨w.heap.size, 2, none⟩ = some (.int .i64 (k 2)) := (blk_cell HK1.out 2).trans rfl
  have q3 : w1.cell? ⟨w.heap.size, 3, none⟩ = some (.int .i64 (k 3)) := (blk_cell HK1.out 3).trans rfl
  have r0 : w1.cell? ⟨w.heap.size + 1, 0, none⟩ = some (.int .i64 (fn4 s 0)) := (blk_cell HS1.out 0).trans rfl
  have r1 : w1.cell? ⟨w.heap.size + 1, 1, none⟩ = some (.int .i64 (fn4 s 1)) := (blk_cell HS1.out 1).trans rfl
  have r2 : w1.cell? ⟨w.heap.size + 1, 2, none⟩ = some (.int .i64 (fn4 s 2)) := (blk_cell HS1.out 2).trans rfl
  have r3 : w1.cell? ⟨w.heap.size + 1, 3, none⟩ = some (.int .i64 (fn4 s 3)) := (blk_cell HS1.out 3).trans rfl
  go_wp2_with fail
  refine (HT _).mono ?_
  rintro e w2 ⟨rfl, hb2⟩
  have HB2 := Aside0.mk (below_chain HB1.out hb2)
  clear hb2 HT
  go_wp2_with fail
  all_goals (go_ret2; exact ⟨by first | rfl | trace_state, HB2.out⟩)
theorem fewest_no (k : Nat → Int) (s : Sd) (time : Int) (h : searchB k s time = false) (w : World) : Calls Try.prog 43 #[A4 k, A4 (fn4 s), .int .i64 time] w fun e w' => e = .returned (.tuple #[.int .i64 0, .bool false]) ∧ Below w.heap.size w w' := by
  have HH := Aside0.mk h
  clear h
  go_enter Try.func43, Try.ntmps43
  go_wp2_with fail
  refine (search_any k s time false HH.out _).mono ?_
  rintro e w1 ⟨rfl, hb⟩
  have HB1 := Aside0.mk (show Below w.heap.size w w1 from below_chain (below_alloc (below_alloc (Below.refl _ _) _) _) hb)
  clear hb
  go_wp2_with fail
  all_goals (go_ret2; exact ⟨by first | rfl | trace_state, HB1.out⟩)
def xCanTell.f (a0_0 a0_1 a0_2 a0_3 a1_0 a1_1 a1_2 a1_3 a2 : Int) : Option (Bool × Bool) :=
  if searchB (v4 a0_0 a0_1 a0_2 a0_3) (a1_0, a1_1, a1_2, a1_3) a2 = true then some (decide (0 ≤ (tellTo (v4 a0_0 a0_1 a0_2 a0_3) (a1_0, a1_1, a1_2, a1_3) a2 13).sets), true) else some (false, false)
theorem xCanTell.calls (a0_0 a0_1 a0_2 a0_3 a1_0 a1_1 a1_2 a1_3 a2 : Int) (r1 : Bool) (r2 : Bool) (w : World) (h : xCanTell.f a0_0 a0_1 a0_2 a0_3 a1_0 a1_1 a1_2 a1_3 a2 = some (r1, r2)) : Calls Try.prog 41 #[.agg #[.int .i64 a0_0, .int .i64 a0_1, .int .i64 a0_2, .int .i64 a0_3], .agg #[.int .i64 a1_0, .int .i64 a1_1, .int .i64 a1_2, .int .i64 a1_3], .int .i64 a2] w fun e w' => e = .returned (.tuple #[.bool r1, .bool r2]) ∧ Below w.heap.size w w' := by
  unfold xCanTell.f at h
  by_cases q : searchB (v4 a0_0 a0_1 a0_2 a0_3) (a1_0, a1_1, a1_2, a1_3) a2 = true
  · rw [if_pos q] at h
    simp only [Option.some.injEq, Prod.mk.injEq] at h
    obtain ⟨rfl, rfl⟩ := h
    exact canTell_yes (v4 a0_0 a0_1 a0_2 a0_3) (a1_0, a1_1, a1_2, a1_3) a2 q w
  · rw [if_neg q] at h
    simp only [Option.some.injEq, Prod.mk.injEq] at h
    obtain ⟨rfl, rfl⟩ := h
    exact canTell_no (v4 a0_0 a0_1 a0_2 a0_3) (a1_0, a1_1, a1_2, a1_3) a2 (by simpa using q) w
def xFewest.f (a0_0 a0_1 a0_2 a0_3 a1_0 a1_1 a1_2 a1_3 a2 : Int) : Option (Int × Bool) :=
  if searchB (v4 a0_0 a0_1 a0_2 a0_3) (a1_0, a1_1, a1_2, a1_3) a2 = true then some (if (tellTo (v4 a0_0 a0_1 a0_2 a0_3) (a1_0, a1_1, a1_2, a1_3) a2 13).sets < 0 then 0 else (tellTo (v4 a0_0 a0_1 a0_2 a0_3) (a1_0, a1_1, a1_2, a1_3) a2 13).sets, decide (0 ≤ (tellTo (v4 a0_0 a0_1 a0_2 a0_3) (a1_0, a1_1, a1_2, a1_3) a2 13).sets)) else some (0, false)
theorem xFewest.calls (a0_0 a0_1 a0_2 a0_3 a1_0 a1_1 a1_2 a1_3 a2 : Int) (r1 : Int) (r2 : Bool) (w : World) (h : xFewest.f a0_0 a0_1 a0_2 a0_3 a1_0 a1_1 a1_2 a1_3 a2 = some (r1, r2)) : Calls Try.prog 43 #[.agg #[.int .i64 a0_0, .int .i64 a0_1, .int .i64 a0_2, .int .i64 a0_3], .agg #[.int .i64 a1_0, .int .i64 a1_1, .int .i64 a1_2, .int .i64 a1_3], .int .i64 a2] w fun e w' => e = .returned (.tuple #[.int .i64 r1, .bool r2]) ∧ Below w.heap.size w w' := by
  unfold xFewest.f at h
  by_cases q : searchB (v4 a0_0 a0_1 a0_2 a0_3) (a1_0, a1_1, a1_2, a1_3) a2 = true
  · rw [if_pos q] at h
    simp only [Option.some.injEq, Prod.mk.injEq] at h
    obtain ⟨rfl, rfl⟩ := h
    exact fewest_yes (v4 a0_0 a0_1 a0_2 a0_3) (a1_0, a1_1, a1_2, a1_3) a2 q w
  · rw [if_neg q] at h
    simp only [Option.some.injEq, Prod.mk.injEq] at h
    obtain ⟨rfl, rfl⟩ := h
    exact fewest_no (v4 a0_0 a0_1 a0_2 a0_3) (a1_0, a1_1, a1_2, a1_3) a2 (by simpa using q) w
end Go.Proofs.Ytlhodfjdmafapaa
end
