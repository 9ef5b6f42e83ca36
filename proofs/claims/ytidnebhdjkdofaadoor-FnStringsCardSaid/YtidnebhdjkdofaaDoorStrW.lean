/- FnStrings (Door seat): the draws and the law's walk. No statement of the seat is proved here. -/
import Derived.Test.YtidnebhdjkdofaaDoorStrP
import Derived.Test.YtidnebhdjkdofaaDoorDraw
import Derived.Deep.RegionWith
namespace Go.Proofs.YtidnebhdjkdofaaDoor
open Go.RowKit Go.Proofs.YtidnebhdjkdofaaDoorW.PrintWords Go.Proofs.YtidnebhdjkdofaaDoorW.PrintLast Go.Proofs.YtidnebhdjkdofaaDoor.QDr Go.Proofs.YtidnebhdjkdofaaDoor.QStr
set_option linter.unusedVariables false
set_option linter.unusedSimpArgs false
set_option maxHeartbeats 1600000 in
theorem drawFormat_any {code : List Int} (hc : Bytes code) (A : Option Addr) (cap : Nat) (w : World) (hC : Kd.C (Kd.int .u8) w A code.length code) :
    Calls Tryd.prog 33 #[.slice A code.length cap] w fun e w' => ∃ n : Int, e = .returned (.int .i64 n) ∧ Below w.heap.size w w' := by
  have HC := Aside0.mk hC
  clear hC
  go_enter Tryd.func33, Tryd.ntmps33
  go_wp2_with fail
  refine (pickC hc (cu_new HC.out) (by omega) (below_alloc (Below.refl _ _) _) (n := 1000) (by omega)).mono ?_
  rintro e w1 ⟨x, hx, rfl, hI, hB, _⟩
  have en : wrap64 (x - 500) = x - 500 := wrap_id (by omega) (by omega)
  have HI := Aside0.mk hI
  have HB := Aside0.mk hB
  clear hI hB hx
  go_wp2_with fail
  refine (amongC hc (HI.out.below (below_alloc (Below.refl _ _) _)) (by omega) (below_alloc HB.out _) [0, 1, -1, 10, 999999, -999999, 1000000, -1000000, x - 500] (I_new w1 [0, 1, -1, 10, 999999, -999999, 1000000, -1000000, x - 500] 3 (by simp)) (by simp) (by rintro ad hA _ e; cases hA; have := HI.out.lt; simp only at e; omega) (by simp)).mono ?_
  rintro e w2 ⟨n, _, rfl, hI2, hB2, _⟩
  have HB2 := Aside0.mk hB2
  clear hI2 hB2 HI HB
  go_wp2_with fail
  go_ret
  exact ⟨n, rfl, HB2.out⟩
set_option maxHeartbeats 1600000 in
theorem drawParse_any {code : List Int} (hc : Bytes code) (A : Option Addr) (cap : Nat) (w : World) (hC : Kd.C (Kd.int .u8) w A code.length code) :
    Calls Tryd.prog 34 #[.slice A code.length cap] w fun e w' => ∃ t : ByteArray, t.size ≤ 10000 ∧ e = .returned (.string t) ∧ Below w.heap.size w w' := by
  have HC := Aside0.mk hC
  clear hC
  go_enter Tryd.func34, Tryd.ntmps34
  go_wp2_with fail
  refine (oneC hc (cu_new HC.out) (by omega) (below_alloc (Below.refl _ _) _) (n := 2) (by omega)).mono ?_
  rintro e w1 ⟨b, rfl, hI, hB, _⟩
  have HI := Aside0.mk hI
  have HB := Aside0.mk hB
  clear hI hB
  cases b
  · go_wp2_with fail
    refine (pickC hc HI.out (by omega) HB.out (n := 2000) (by omega)).mono ?_
    rintro e w2 ⟨x, hx, rfl, hI, hB, _⟩
    have en : wrap64 (x - 1000) = x - 1000 := wrap_id (by omega) (by omega)
    have hn := l1Num_any (x - 1000) (by omega)
    have hz : (textB (x - 1000)).size ≤ 10000 := by
      have a := digits_len 5 (x - 1000).natAbs (by have h3 : (10 : Nat) ^ 6 = 1000000 := by decide
                                                   omega)
      rw [← bytes_len, textB_list]
      unfold Lib.itoa
      split
      · simp only [List.length_cons]; omega
      · rw [show (x - 1000).toNat = (x - 1000).natAbs by omega]; omega
    have HB2 := Aside0.mk hB
    clear hI hB hx HI HB
    generalize textB (x - 1000) = t at hn hz
    go_wp2_with fail
    refine (hn _).mono ?_
    rintro e w3 ⟨rfl, hd⟩
    have HB3 := Aside0.mk (below_chain HB2.out (Drawn0.below hd))
    clear hd HB2 hn
    go_wp2_with fail
    go_ret
    exact ⟨t, hz, rfl, HB3.out⟩
  · go_wp2_with fail
    refine (ofC hc (HI.out.below (below_alloc (Below.refl _ _) _)) (by omega) (below_alloc HB.out _) [⟨#[]⟩, ⟨#[45]⟩, ⟨#[45, 48]⟩, ⟨#[48, 48]⟩, ⟨#[48, 49]⟩, ⟨#[45, 45, 49]⟩, ⟨#[49, 120]⟩, ⟨#[57, 57, 57, 57, 57, 57]⟩, ⟨#[49, 48, 48, 48, 48, 48, 48]⟩, ⟨#[45, 57, 57, 57, 57, 57, 57]⟩, ⟨#[49, 56, 52, 52, 54, 55, 52, 52, 48, 55, 51, 55, 48, 57, 53, 53, 49, 54, 49, 55]⟩] (C_new w1 [⟨#[]⟩, ⟨#[45]⟩, ⟨#[45, 48]⟩, ⟨#[48, 48]⟩, ⟨#[48, 49]⟩, ⟨#[45, 45, 49]⟩, ⟨#[49, 120]⟩, ⟨#[57, 57, 57, 57, 57, 57]⟩, ⟨#[49, 48, 48, 48, 48, 48, 48]⟩, ⟨#[45, 57, 57, 57, 57, 57, 57]⟩, ⟨#[49, 56, 52, 52, 54, 55, 52, 52, 48, 55, 51, 55, 48, 57, 53, 53, 49, 54, 49, 55]⟩] 9 (by simp)) (by simp) (by rintro ad hA _ e; cases hA; have := HI.out.lt; simp only at e; omega) (by simp)).mono ?_
    rintro e w2 ⟨t, hm, rfl, hI2, hB2, _⟩
    have HB2 := Aside0.mk hB2
    have HM := Aside0.mk hm
    clear hI2 hB2 HI HB hm
    go_wp2_with fail
    go_ret
    refine ⟨t, ?_, rfl, HB2.out⟩
    have hm := HM.out
    simp only [List.mem_cons, List.not_mem_nil, or_false] at hm
    rcases hm with rfl | rfl | rfl | rfl | rfl | rfl | rfl | rfl | rfl | rfl | rfl <;> decide
set_option maxHeartbeats 1600000 in
theorem drawAppend_any {code : List Int} (hc : Bytes code) (A : Option Addr) (cap : Nat) (w : World) (hC : Kd.C (Kd.int .u8) w A code.length code) :
    Calls Tryd.prog 35 #[.slice A code.length cap] w fun e w' => ∃ t : ByteArray, t.size ≤ 10000 ∧ e = .returned (.string t) ∧ Below w.heap.size w w' := by
  have HC := Aside0.mk hC
  clear hC
  go_enter Tryd.func35, Tryd.ntmps35
  go_wp2_with fail
  refine (oneC hc (cu_new HC.out) (by omega) (below_alloc (Below.refl _ _) _) (n := 20) (by omega)).mono ?_
  rintro e w1 ⟨b, rfl, hI, hB, _⟩
  have HI := Aside0.mk hI
  have HB := Aside0.mk hB
  clear hI hB
  cases b
  · go_wp2_with fail
    refine (any1C hc HI.out (by omega) HB.out).mono ?_
    rintro e w2 ⟨t, ht, rfl, _, hB, _⟩
    have HT := Aside0.mk ht
    have HB2 := Aside0.mk hB
    clear hB ht HI HB
    go_wp2_with fail
    go_ret
    exact ⟨t, Nat.le_trans HT.out (by omega), rfl, HB2.out⟩
  · go_wp2_with fail
    refine (pickC hc HI.out (by omega) HB.out (n := 10) (by omega)).mono ?_
    rintro e w3 ⟨x, hx, rfl, _, hB, _⟩
    have HB3 := Aside0.mk hB
    have en : wrap64 (3990 + x) = 3990 + x := wrap_id (by omega) (by omega)
    have HX := Aside0.mk hx
    clear hB hx HI HB
    go_wp2_with (first | ((with_reducible refine gate_dst (N := 12) rfl ?_); refine Kd.R_make (Kd.int .u8) w3.heap.size 5 rfl (N := 12) rfl 33 _ _ rfl (3990 + x) ?hx1 ?hx2 Tryd.underlying33 (.int .u8 0) 1 infoB rfl (by decide) (by omega) (0 : Int) (ok := fun _ => True) (okp := fun _ => True) rfl (fun _ hk => hk) trivial (by have := HX.out; omega) (by have := HX.out; omega) (Below.refl _ _) (Nat.le_refl _) ?_; (case hx1 => first | (go_simp; done) | (go_simp; rfl) | rfl); (case hx2 => first | (go_simp; done) | (go_simp; rfl) | rfl); intro v30 w4 ho5 hb5 hg5 hn5; have HV := Aside0.mk ho5; have HB4 := Aside0.mk (below_chain HB3.out hb5); clear ho5 hb5 hg5 hn5 HB3; have hcv := own_string (P := Tryd.prog) Tryd.underlying33 Tryd.underlying5 Tryd.underlying9 (Kd.own_of_R HV.out)) | fail)
    go_ret
    refine ⟨_, ?_, rfl, HB4.out⟩
    rw [strOfNums_size, List.length_replicate]; have := HX.out; omega
theorem vAt_any {code : List Int} (hc : Bytes code) (hl : code.length ≤ 65536) {i : Int} (hi : 0 ≤ i ∧ i ≤ 100) : ∃ r, laws_vAt.f code i = some r ∧ 0 ≤ r ∧ r ≤ 255 := by
  have hr := rd_byte hc i
  unfold laws_vAt.f
  by_cases a : i < (code.length : Int)
  · rw [if_pos a, if_pos hi.1, wrap_id (by omega) (by omega)]
    exact ⟨_, rfl, hr⟩
  · rw [if_neg a, wrap_id (x := i * 7) (by omega) (by omega), wrap_id (by omega) (by omega), Int.tmod_eq_emod_of_nonneg (by omega)]
    exact ⟨_, rfl, by omega, by omega⟩
theorem u8_in (d : Nat) (h : d < 256) : IntKind.u8.wrap (d : Int) = (d : Int) := by
  show ((d : Int) % 256 : Int) = d
  omega
theorem set_C {w : World} {g k : Nat} {cs : Array Value} {T : TypeId} {fr : Nat × Nat} {y : ByteArray} {u : Int} (hblk : w.heap[g]? = some (.cells cs T fr)) (hcs : y.size ≤ cs.size ∧ ∀ j, j < y.size → cs[j]? = some (.int .u8 (y.data.toList.getD j 0).toNat)) (hk : k < y.size) (nd : Nat) (hz : y.size ≤ 4000) :
    (Kd.int .u8).C ((w.drewN nd).setCell ⟨g, k, none⟩ (.int .u8 u)) (some ⟨g, 0, none⟩) y.size ((bytesOf y).set k u) := by
  have hb2 : (w.drewN nd).heap[g]? = some (.cells cs T fr) := hblk
  generalize w.drewN nd = W at hb2 ⊢
  clear hblk
  refine Kd.C_of_reads (enc := Value.int .u8) (d := (0 : Int)) (h1 := fun _ => rfl) ⟨by rw [List.length_set, bytesOf_length], by omega, fun _ => ⟨_, rfl, fun j hj => ?_⟩⟩
  rw [add_plain]
  have h' : j < y.data.toList.length := by rw [data_length]; exact hj
  by_cases e : j = k
  · subst e
    simp [World.cell?, World.setCell, Array.getElem?_modify, hb2, List.getD_eq_getElem?_getD, List.getElem?_set, bytesOf, hcs.1, show j < cs.size by omega, h']
    rw [if_pos hj]; rfl
  · have hj' := hcs.2 j hj
    simp [World.cell?, World.setCell, Array.getElem?_modify, hb2, List.getD_eq_getElem?_getD, List.getElem?_set, bytesOf, Array.getElem?_setIfInBounds, Ne.symm e, hj', h']
    cases y.data[j]? <;> rfl
theorem app_false {x y : ByteArray} (hy : y = (appR x (sv x)).1) (hs : false = (appR x (sv x)).2) : y = (⟨#[]⟩ : ByteArray) := by
  unfold appR at hy hs
  cases c : (decide (x.size ≤ 4000) && !has x && decide ((sumTx x (sv x)).size ≤ 4000))
  · rw [c] at hy; exact hy
  · rw [c] at hs; cases hs
theorem app_true {x y : ByteArray} (hy : y = (appR x (sv x)).1) (hs : true = (appR x (sv x)).2) : y = sumTx x (sv x) ∧ has x = false ∧ y.size ≤ 4000 := by
  unfold appR at hy hs
  cases c : (decide (x.size ≤ 4000) && !has x && decide ((sumTx x (sv x)).size ≤ 4000))
  · rw [c] at hs; cases hs
  · rw [c] at hy
    have hy' : y = sumTx x (sv x) := hy
    simp only [Bool.and_eq_true, Bool.not_eq_true', decide_eq_true_eq] at c
    exact ⟨hy', c.1.2, hy' ▸ c.2⟩
theorem good_val {x y : ByteArray} (e : y = sumTx x (sv x)) (hx : has x = false) (hz : y.size ≤ 4000) : verR y (sv (tOf y)) = (x, true) := by
  subst e
  obtain ⟨a, b⟩ := open_val hx hz
  rw [a, b]
theorem bytes_set (y : ByteArray) (k : Nat) (v : Int) : (strOfNums ((bytesOf y).set k v)).data.toList = y.data.toList.set k (UInt8.ofNat v.toNat) := by
  rw [strOfNums_data, List.map_set]
  congr 1
  unfold bytesOf
  rw [List.map_map]
  conv => rhs; rw [← List.map_id y.data.toList]
  apply List.map_congr_left
  intro b _
  apply UInt8.toNat_inj.1
  simp
theorem bad_val {x y : ByteArray} (e : y = sumTx x (sv x)) (hx : has x = false) {k : Nat} (hk : k < y.size) {c d : Nat} (hc : c = (y.data.toList.getD k 0).toNat) (hd : 1 ≤ d ∧ d ≤ 255) :
    (verR (strOfNums ((bytesOf y).set k ((c ^^^ d : Nat) : Int))) (sv (tOf (strOfNums ((bytesOf y).set k ((c ^^^ d : Nat) : Int)))))).2 = false := by
  subst e
  have hl : k < (sealL x.data.toList).length := by rw [← seal_bytes, bytes_len]; exact hk
  have hm := bytes_set (sumTx x (sv x)) k ((c ^^^ d : Nat) : Int)
  rw [seal_bytes] at hm
  refine spoilt_val hx hl ?_ hm
  rw [seal_bytes, List.getD_eq_getElem?_getD, List.getElem?_eq_getElem hl] at hc
  have hc' : c = ((sealL x.data.toList)[k]'hl).toNat := hc
  intro h
  rw [h] at hc'
  have c1 : c < 256 := by rw [hc']; exact UInt8.toNat_lt _
  have c2 : c ^^^ d < 256 := Nat.xor_lt_two_pow (n := 8) c1 (by omega)
  rw [Int.toNat_natCast, UInt8.toNat_ofNat_of_lt' c2] at hc'
  exact xor_ne (by omega) hc'.symm
set_option maxHeartbeats 6400000 in
set_option maxRecDepth 100000 in
theorem lawStr_any (code : List Int) (hc : Bytes code) (A : Option Addr) (cap : Nat) (w : World) (hC : Kd.C (Kd.int .u8) w A code.length code) (hcap : code.length ≤ cap) (hl : code.length ≤ 65536) (ht : Tab w) (he : EV w) (hm : ML w) :
    Calls Tryd.prog 9 #[.slice A code.length cap] w fun e w' => e = .returned (.bool true) ∧ Below w.heap.size w w' := by
  have hV : Calls Tryd.prog 23 #[.slice A code.length cap] w fun e w' => e = .returned (.bool false) ∧ Drawn0 w w' := laws_vBig.calls A cap code false w hC hcap (by unfold laws_vBig.f; rw [decide_eq_false (by omega)])
  obtain ⟨r9, f9, r90, r91⟩ := vAt_any hc hl (i := 9) (by omega)
  obtain ⟨r10, f10, r100, r101⟩ := vAt_any hc hl (i := 10) (by omega)
  have hA9 := fun W (hb : Below w.heap.size w W) => laws_vAt.calls A cap code 9 r9 W (Kd.C_below hC hb) hcap f9
  have hA10 := fun W (hb : Below w.heap.size w W) => laws_vAt.calls A cap code 10 r10 W (Kd.C_below hC hb) hcap f10
  have hDF := fun W (hb : Below w.heap.size w W) => drawFormat_any hc A cap W (Kd.C_below hC hb)
  have hDP := fun W (hb : Below w.heap.size w W) => drawParse_any hc A cap W (Kd.C_below hC hb)
  have hDA := fun W (hb : Below w.heap.size w W) => drawAppend_any hc A cap W (Kd.C_below hC hb)
  have hFI := fun n W (hb : Below w.heap.size w W) => implFormatInt_any n W (tab_keep ht hb)
  have hPI := fun t (hz : t.size ≤ 1048576) W (hb : Below w.heap.size w W) => implParse_any t hz W (tab_keep ht hb) (ev_keep he hb)
  have hAI := fun x (hz : x.size ≤ 1048576) W (hb : Below w.heap.size w W) => implAppend_any x (sv x) (sv_range x) hz (check_val x hz) W (tab_keep ht hb)
  have hVI := fun y (hz : y.size ≤ 1048576) W (hb : Below w.heap.size w W) => implVerify_any y (sv (tOf y)) (sv_range _) hz (check_val (tOf y) (Nat.le_trans (tOf_size y) hz)) W (tab_keep ht hb) (ml_keep hm hb)
  have HR := Aside0.mk (show (0 ≤ r9 ∧ r9 ≤ 255) ∧ (0 ≤ r10 ∧ r10 ≤ 255) from ⟨⟨r90, r91⟩, r100, r101⟩)
  clear hC hcap hl ht he hm f9 f10 r90 r91 r100 r101 hc
  go_enter Tryd.func9, Tryd.ntmps9
  go_wp2_with fail
  refine hV.mono ?_
  rintro e w0 ⟨rfl, hd⟩
  have HB := Aside0.mk (show Below w.heap.size w w0 from Drawn0.below hd)
  clear hV hd
  go_wp2_with fail
  refine (hDF _ HB.out).mono ?_
  rintro e w1 ⟨n, rfl, hb⟩
  have HB1 := Aside0.mk (below_chain HB.out hb)
  clear hb HB hDF
  go_wp2_with fail
  refine (hFI n _ HB1.out).mono ?_
  rintro e w2 ⟨rfl, hb⟩
  have HB2 := Aside0.mk (below_chain HB1.out hb)
  clear hb HB1 hFI
  go_wp2_with fail
  refine (specFormatInt_any n _).mono ?_
  rintro e w3 ⟨rfl, hd⟩
  have HB3 := Aside0.mk (below_chain HB2.out (Drawn0.below hd))
  clear hd HB2
  go_wp2_with fail
  refine (hDP _ HB3.out).mono ?_
  rintro e w4 ⟨t, htz, rfl, hb⟩
  have HB4 := Aside0.mk (below_chain HB3.out hb)
  have hPt := hPI t (by omega)
  have hPs := fun W => spec_ParseInt.calls 20 t (readR t).1 (readR t).2 W (parse_spec t (by omega))
  clear hb HB3 hDP htz
  generalize (readR t).1 = m1 at hPt hPs
  generalize (readR t).2 = m2 at hPt hPs
  go_wp2_with fail
  refine (hPt _ HB4.out).mono ?_
  rintro e w5 ⟨rfl, hb⟩
  have HB5 := Aside0.mk (below_chain HB4.out hb)
  clear hb HB4 hPt
  go_wp2_with fail
  refine (hPs _).mono ?_
  rintro e w6 ⟨rfl, hd⟩
  have HB6 := Aside0.mk (below_chain HB5.out (Drawn0.below hd))
  clear hd HB5 hPs
  go_wp2_with fail
  refine (hDA _ HB6.out).mono ?_
  rintro e w7 ⟨x, hxz, rfl, hb⟩
  have HB7 := Aside0.mk (below_chain HB6.out hb)
  have hAx := hAI x (by omega)
  obtain ⟨kA, hkA⟩ := append_val x (by omega)
  have hAs := fun W => spec_AppendChecksum.calls kA x (appR x (sv x)).1 (appR x (sv x)).2 W hkA
  have HXZ := Aside0.mk hxz
  clear hb HB6 hDA hAI hkA hxz
  obtain ⟨y, hy⟩ : ∃ y, y = (appR x (sv x)).1 := ⟨_, rfl⟩
  obtain ⟨sd, hsd⟩ : ∃ sd, sd = (appR x (sv x)).2 := ⟨_, rfl⟩
  rw [← hy, ← hsd] at hAx hAs
  have HY := Aside0.mk hy
  have HSD := Aside0.mk hsd
  clear hy hsd
  go_wp2_with fail
  refine (hAx _ HB7.out).mono ?_
  rintro e w8 ⟨rfl, hb⟩
  have HB8 := Aside0.mk (below_chain HB7.out hb)
  clear hb HB7 hAx
  go_wp2_with fail
  refine (hAs _).mono ?_
  rintro e w9 ⟨rfl, hd⟩
  have HB9 := Aside0.mk (below_chain HB8.out (Drawn0.below hd))
  clear hd HB8 hAs
  have hPf := hPI (fmtB n) (by
    unfold fmtB
    cases g : inB (-999999) 999999 n
    · exact (by decide : (⟨#[]⟩ : ByteArray).size ≤ 1048576)
    · have a := digits_len 5 n.natAbs (by have h3 : (10 : Nat) ^ 6 = 1000000 := by decide
                                          have := in_bounds g
                                          omega)
      simp only [cond_true]
      rw [← bytes_len, textB_list]
      unfold Lib.itoa
      split
      · simp only [List.length_cons]; omega
      · rw [show n.toNat = n.natAbs by omega]; omega)
  have key : (inB (-999999) 999999 n = true ∧ readR (fmtB n) = (n, true)) ∨ inB (-999999) 999999 n = false := by
    cases g : inB (-999999) 999999 n
    · right; rfl
    · left
      refine ⟨rfl, ?_⟩
      unfold fmtB
      rw [g]
      exact readR_text n (in_bounds g)
  have HP := Aside0.mk hPf
  have HK := Aside0.mk key
  clear hPI hPf key
  generalize fmtB n = sn at *
  generalize inB (-999999) 999999 n = on at *
  obtain ⟨p1, hp1⟩ : ∃ p1, p1 = (readR sn).1 := ⟨_, rfl⟩
  obtain ⟨p2, hp2⟩ : ∃ p2, p2 = (readR sn).2 := ⟨_, rfl⟩
  have hPf := HP.out
  rw [← hp1, ← hp2] at hPf
  have HK2 : Aside0 ((on = true ∧ p1 = n ∧ p2 = true) ∨ on = false) := ⟨by
    rcases HK.out with ⟨a, b⟩ | a
    · left; rw [b] at hp1 hp2; exact ⟨a, hp1, hp2⟩
    · right; exact a⟩
  clear HP HK hp1 hp2
  go_wp2_with fail
  refine (hPf _ HB9.out).mono ?_
  rintro e w10 ⟨rfl, hb⟩
  have HB10 := Aside0.mk (below_chain HB9.out hb)
  clear hb HB9 hPf
  have hk := HK2.out
  clear HK2
  rcases hk with ⟨rfl, rfl, rfl⟩ | rfl
  all_goals
    cases sd
    · have hy0 := app_false HY.out HSD.out
      subst hy0
      go_wp2_with fail
      go_ret
      exact ⟨rfl, HB10.out⟩
    · obtain ⟨y1, y2, y3⟩ := app_true HY.out HSD.out
      have hv1 := hVI y (by omega)
      rw [good_val y1 y2 y3] at hv1
      have hz0 : 0 < y.size := by rw [y1, sumTx_size]; omega
      have hR := HR.out
      have hkk : 0 ≤ Int.tmod r9 (y.size : Int) ∧ Int.tmod r9 (y.size : Int) < (y.size : Int) := by
        rw [Int.tmod_eq_emod_of_nonneg (by omega)]; exact ⟨Int.emod_nonneg _ (by omega), Int.emod_lt_of_pos _ (by omega)⟩
      obtain ⟨k, hk⟩ := Int.eq_ofNat_of_zero_le hkk.1
      have hd1 : Int.tmod r10 255 = r10 % 255 := Int.tmod_eq_emod_of_nonneg (by omega)
      have HY2 := Aside0.mk (show y = sumTx x (sv x) ∧ has x = false ∧ y.size ≤ 4000 ∧ 0 < y.size ∧ k < y.size from ⟨y1, y2, y3, hz0, by omega⟩)
      have kb := fun W => print_bytes (P := Tryd.prog) 9 33 5 Tryd.underlying9 Tryd.underlying33 Tryd.underlying5 y W
      clear HY HSD hkk hR hz0 y1 y2 y3
      go_wp2_with fail
      refine (hv1 _ HB10.out).mono ?_
      rintro e w11 ⟨rfl, hb⟩
      have HB11 := Aside0.mk (below_chain HB10.out hb)
      clear hb HB10 hv1
      go_wp2_with (first | (rw [kb]) | fail)
      have hB11' := bytes_below HB11.out HB11.out.size 5 y
      refine (hA9 _ hB11').mono ?_
      rintro e w12 ⟨rfl, hd⟩
      have HB12 := Aside0.mk (below_chain hB11' (Drawn0.below hd))
      have hblk := ((Drawn0.below hd).block w11.heap.size (by rw [Lib.bytesWorld_size]; omega)).trans (Lib.bytesWorld_at_new w11 5 y)
      have hcs : y.size ≤ (Lib.bytesCells w11 5 y).size ∧ ∀ j, j < y.size → (Lib.bytesCells w11 5 y)[j]? = some (.int .u8 (y.data.toList.getD j 0).toNat) := by
        refine ⟨by simp [Lib.bytesCells], fun j hj => ?_⟩
        simp [Lib.bytesCells, Array.getElem?_append, List.getD, hj]
      have HG := Aside0.mk HB11.out.size
      have HR2 := Aside0.mk HR.out.2
      clear hB11' hd HB11 hA9 kb
      generalize Lib.bytesCells w11 5 y = cs at *
      generalize w11.heap.size = g at *
      generalize grownCap w11 y.size 0 5 = cap2
      have hyy := HY2.out
      have hz : 0 < y.size := hyy.2.2.2.1
      clear hyy
      go_wp2_with fail
      clear hz hk
      have hkz := HY2.out.2.2.2.2
      obtain ⟨c, hc⟩ : ∃ c, c = (y.data.toList.getD k 0).toNat := ⟨_, rfl⟩
      have hcell := hcs.2 k hkz
      rw [← hc] at hcell
      have hc2 : c < 256 := by rw [hc]; exact UInt8.toNat_lt _
      have hr10 := HR2.out
      obtain ⟨d, hd⟩ : ∃ d : Nat, d = 1 + (r10 % 255).toNat := ⟨_, rfl⟩
      have e1 : Int.tmod r10 255 = (d : Int) - 1 := by omega
      have e2 : IntKind.i64.wrap (1 + ((d : Int) - 1)) = (d : Int) := by rw [IntWalk.i64_in _ (by omega)]; omega
      have e3 : IntKind.u8.wrap (d : Int) = (d : Int) := u8_in d (by omega)
      have e4 : bits .xor .u8 (c : Int) (d : Int) = ((c ^^^ d : Nat) : Int) := u8_xor_nat c d hc2 (by omega)
      have hl : k < cs.size := by omega
      have hq1 : w12.cell? ⟨g, k, none⟩ = some (.int .u8 (c : Int)) := by simp [World.cell?, hblk, hcell]
      have hq2 : w12.frozen? ⟨g, k, none⟩ = false := by simp [World.frozen?, hblk]; omega
      have HX := Aside0.mk (show c = (y.data.toList.getD k 0).toNat ∧ 1 ≤ d ∧ d ≤ 255 from ⟨hc, by omega, by omega⟩)
      have HQ := Aside0.mk hcs
      clear hcs hcell hc hd hc2 hr10 hl hd1
      have hgw := HG.out
      go_region_with (first | (go_at_call 36; refine (hA10 _ (Below.drew HB12.out)).mono ?_; rintro e w13 ⟨rfl, ⟨nd, rfl⟩⟩) | fail)
      all_goals have hHeld : Below w.heap.size w (((w12.drewN (1 + nd)).setCell ⟨g, k, none⟩ (.int .u8 ((c ^^^ d : Nat) : Int)))) := bl_set _ hgw (bl_drewN _ HB12.out)
      all_goals
        skip
        have hyy := HY2.out
        have hC13 := set_C (u := ((c ^^^ d : Nat) : Int)) hblk HQ.out hyy.2.2.2.2 (1 + nd) hyy.2.2.1
        have hs13 := Kd.C_string (P := Tryd.prog) (c := cap2) Tryd.underlying33 Tryd.underlying5 Tryd.underlying9 hC13
        have hbad := bad_val hyy.1 hyy.2.1 hyy.2.2.2.2 HX.out.1 HX.out.2
        have hbz : (strOfNums ((bytesOf y).set k ((c ^^^ d : Nat) : Int))).size ≤ 1048576 := by
          rw [strOfNums_size, List.length_set, bytesOf_length]; omega
        have hv2 := hVI _ hbz
        rw [show verR (strOfNums ((bytesOf y).set k ((c ^^^ d : Nat) : Int))) (sv (tOf (strOfNums ((bytesOf y).set k ((c ^^^ d : Nat) : Int))))) = ((verR (strOfNums ((bytesOf y).set k ((c ^^^ d : Nat) : Int))) (sv (tOf (strOfNums ((bytesOf y).set k ((c ^^^ d : Nat) : Int)))))).1, false) from Prod.ext rfl hbad] at hv2
        generalize (verR (strOfNums ((bytesOf y).set k ((c ^^^ d : Nat) : Int))) (sv (tOf (strOfNums ((bytesOf y).set k ((c ^^^ d : Nat) : Int)))))).1 = z2 at hv2
        have HH := Aside0.mk hHeld
        clear hbad hC13 hyy hblk hq1 hq2 e1 e2 e3 e4 HX HQ HB12 hVI hA10 hHeld hgw hkz hbz
        generalize (w12.drewN (1 + nd)).setCell _ _ = W13 at *
        generalize strOfNums _ = bb at *
        go_wp2_with fail
        refine (hv2 _ HH.out).mono ?_
        rintro e w14 ⟨rfl, hb⟩
        have HB14 := Aside0.mk (below_chain HH.out hb)
        clear hb HH hv2 hs13
        go_wp2_with fail
        go_ret
        exact ⟨rfl, HB14.out⟩
set_option maxHeartbeats 1600000 in
theorem lawStrAll (code : List Int) (hc : Bytes code) (A : Option Addr) (cap : Nat) (w : World) (hC : Kd.C (Kd.int .u8) w A code.length code) (hcap : code.length ≤ cap) (ht : Tab w) (he : EV w) (hm : ML w) :
    Calls Tryd.prog 9 #[.slice A code.length cap] w fun e w' => e = .returned (.bool true) ∧ Below w.heap.size w w' := by
  by_cases hl : code.length ≤ 65536
  · exact lawStr_any code hc A cap w hC hcap hl ht he hm
  · have hV : Calls Tryd.prog 23 #[.slice A code.length cap] w fun e w' => e = .returned (.bool true) ∧ Drawn0 w w' := laws_vBig.calls A cap code true w hC hcap (by unfold laws_vBig.f; rw [decide_eq_true (by omega)])
    clear hC hcap hl ht he hm hc
    go_enter Tryd.func9, Tryd.ntmps9
    go_wp2_with fail
    refine hV.mono ?_
    rintro e w0 ⟨rfl, hd⟩
    have HB := Aside0.mk (show Below w.heap.size w w0 from Drawn0.below hd)
    clear hV hd
    go_wp2_with fail
    go_ret
    exact ⟨rfl, HB.out⟩
end Go.Proofs.YtidnebhdjkdofaaDoor
