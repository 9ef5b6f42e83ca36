/- What the cursor draws (Door seat). No statement of the seat is proved here. -/
import Derived.Test.YtidnebhdjkdofaaDoorWords
import Derived.Laws.Bits64b
import Derived.Test.YtidnebhdjkdofaaDoorQDr1
namespace Go.Proofs.YtidnebhdjkdofaaDoor
open Go.RowKit Go.Proofs.YtidnebhdjkdofaaDoorW.PrintWords Go.Proofs.YtidnebhdjkdofaaDoorW.PrintLast Go.Proofs.YtidnebhdjkdofaaDoor.QDr
set_option linter.unusedVariables false
set_option linter.unusedSimpArgs false
theorem infoB : (Tryd.prog.info? 5).map (fun i => (i.zero, i.size, i.bytes)) = some (some (.int .u8 0), 1, 1) := by kernel_rfl
def Bytes (code : List Int) : Prop := ∀ n ∈ code, 0 ≤ n ∧ n ≤ 255
theorem wrap_id {x : Int} (h : -4000000000000000000 ≤ x) (h2 : x ≤ 4000000000000000000) : wrap64 x = x := by unfold wrap64; omega
theorem bits255 (y : Int) : 0 ≤ wrap64 (Go.bits .and .u64 (IntKind.u64.wrap y / 1099511627776) 255) ∧ wrap64 (Go.bits .and .u64 (IntKind.u64.wrap y / 1099511627776) 255) ≤ 255 := by
  rw [IntKind.wrap_u64]
  obtain ⟨m, hm⟩ := Int.eq_ofNat_of_zero_le (show 0 ≤ y % 18446744073709551616 / 1099511627776 by omega)
  have hl : m < 18446744073709551616 := by omega
  have h2 : m &&& 255 ≤ 255 := Nat.and_le_right
  rw [hm, show (255 : Int) = ((255 : Nat) : Int) from rfl, bits_and_u64_nat m 255 hl (by omega), wrap_id (by omega) (by omega)]
  omega
theorem rd_byte {code : List Int} (hc : Bytes code) (i : Int) : 0 ≤ rd code i ∧ rd code i ≤ 255 := by
  unfold rd
  rw [List.getD_eq_getElem?_getD]
  cases h : code[i.toNat]? with
  | none => simp
  | some x => exact hc x (List.mem_of_getElem? h)
theorem next_any {code : List Int} (hc : Bytes code) {ix : Int} (h : 0 ≤ ix ∧ ix ≤ 1000000) (sd : Int) : ∃ b sd2, spec_l1Cur_next.f code ix sd = some (b, ix + 1, sd2) ∧ 0 ≤ b ∧ b ≤ 255 := by
  have e : wrap64 (ix + 1) = ix + 1 := wrap_id (by omega) (by omega)
  have r := rd_byte hc ix
  have e2 : wrap64 (rd code ix) = rd code ix := wrap_id (by omega) (by omega)
  unfold spec_l1Cur_next.f
  rw [e, e2]
  by_cases a : ix < (code.length : Int)
  · rw [if_pos a, if_pos h.1]
    by_cases b : ix + 1 ≤ (code.length : Int)
    · rw [if_pos b]; exact ⟨_, _, rfl, r⟩
    · rw [if_neg b]; exact ⟨_, _, rfl, bits255 _⟩
  · rw [if_neg a]
    by_cases b : ix + 1 ≤ (code.length : Int)
    · rw [if_pos b]; exact ⟨_, _, rfl, by omega, by omega⟩
    · rw [if_neg b]; exact ⟨_, _, rfl, bits255 _⟩
theorem pick_any {code : List Int} (hc : Bytes code) {ix : Int} (h : 0 ≤ ix ∧ ix ≤ 990000) (sd : Int) {n : Int} (hn : 1 ≤ n ∧ n ≤ 100000) : ∃ x i2 sd2, spec_l1Cur_pick.f code ix sd n = some (x, i2, sd2) ∧ (0 ≤ x ∧ x < n) ∧ ix ≤ i2 ∧ i2 ≤ ix + 2 := by
  unfold spec_l1Cur_pick.f
  by_cases a : n ≤ 1
  · rw [if_pos a]; exact ⟨_, _, _, rfl, by omega, by omega, by omega⟩
  · rw [if_neg a]
    obtain ⟨b, sd2, hb, b0, b1⟩ := next_any hc (ix := ix) (by omega) sd
    rw [hb]
    simp only [Option.bind_some]
    by_cases c : n > 200
    · rw [if_pos c]
      obtain ⟨b', sd3, hb', b0', b1'⟩ := next_any hc (ix := ix + 1) (by omega) sd2
      rw [hb']
      simp only [Option.bind_some]
      rw [if_neg (by omega), wrap_id (x := b * 256) (by omega) (by omega), wrap_id (by omega) (by omega), Int.tmod_eq_emod_of_nonneg (by omega)]
      exact ⟨_, _, _, rfl, ⟨Int.emod_nonneg _ (by omega), Int.emod_lt_of_pos _ (by omega)⟩, by omega, by omega⟩
    · rw [if_neg c, if_neg (by omega), Int.tmod_eq_emod_of_nonneg (by omega)]
      exact ⟨_, _, _, rfl, ⟨Int.emod_nonneg _ (by omega), Int.emod_lt_of_pos _ (by omega)⟩, by omega, by omega⟩
theorem rd_mem {l : List Int} {x : Int} (h : 0 ≤ x ∧ x < (l.length : Int)) : rd l x ∈ l := by
  unfold rd
  rw [List.getD_eq_getElem?_getD, List.getElem?_eq_getElem (show x.toNat < l.length by omega)]
  simp
theorem rdOf_mem {l : List ByteArray} {x : Int} (h : 0 ≤ x ∧ x < (l.length : Int)) : rdOf ByteArray.empty l x ∈ l := by
  unfold rdOf
  rw [List.getD_eq_getElem?_getD, List.getElem?_eq_getElem (show x.toNat < l.length by omega)]
  simp
/-- the cursor lies in block g and has drawn little yet -/
def Cu (w0 W : World) (g : Nat) (code : List Int) (n : Nat) : Prop := ∃ ix sd : Int, 0 ≤ ix ∧ ix ≤ n ∧ IsS66 w0 W g code ix sd
theorem Cu.lt {w0 W : World} {g : Nat} {code : List Int} {n : Nat} (h : Cu w0 W g code n) : g < W.heap.size := by
  obtain ⟨_, _, _, _, _, _, hb, _⟩ := h
  exact blk_lt hb
theorem Cu.below {w0 W W1 : World} {g : Nat} {code : List Int} {n : Nat} (h : Cu w0 W g code n) (hb : Below W.heap.size W W1) : Cu w0 W1 g code n := by
  obtain ⟨ix, sd, a, b, c⟩ := h
  exact ⟨ix, sd, a, b, c.below hb⟩
theorem Cu.grown {w0 W W1 : World} {g : Nat} {code : List Int} {n : Nat} {row : Option Nat} (h : Cu w0 W g code n) (hw : W.grownBy W1 row) (hne : some g ≠ row) : Cu w0 W1 g code n := by
  obtain ⟨ix, sd, a, b, c⟩ := h
  exact ⟨ix, sd, a, b, c.grown hw hne⟩
theorem cu_new {w : World} {A : Option Addr} {cap : Nat} {code : List Int} (hC : Kd.C (Kd.int .u8) w A code.length code) : Cu w (w.alloc (.cells #[.slice A code.length cap, .int .i64 0, .int .u64 0] 66)) w.heap.size code 0 :=
  ⟨0, 0, by omega, by omega, A, cap, heap_alloc_new w _, Nat.le_refl _, hC⟩
theorem pickC {code : List Int} (hc : Bytes code) {w0 w : World} {g m : Nat} (hI : Cu w0 w g code m) (hm : m ≤ 1000) (hB : Below w0.heap.size w0 w) {n : Int} (hn : 1 ≤ n ∧ n ≤ 100000) :
    Calls Tryd.prog 57 #[.pointer (some ⟨g, 0, none⟩), .int .i64 n] w fun e w' => ∃ x : Int, (0 ≤ x ∧ x < n) ∧ e = .returned (.int .i64 x) ∧ Cu w0 w' g code (m + 2) ∧ Below w0.heap.size w0 w' ∧ KeepBut w w' g none := by
  obtain ⟨ix, sd, a, b, c⟩ := hI
  obtain ⟨x, i2, sd2, e, hx, h1, h2⟩ := pick_any hc (ix := ix) (by omega) sd hn
  exact (spec_l1Cur_pick.calls g code ix sd n x i2 sd2 w0 w c hB e).mono fun e w' ⟨he, hi, hb, hk⟩ => ⟨x, hx, he, ⟨i2, sd2, by omega, by omega, hi⟩, hb, hk⟩
theorem oneC {code : List Int} (hc : Bytes code) {w0 w : World} {g m : Nat} (hI : Cu w0 w g code m) (hm : m ≤ 1000) (hB : Below w0.heap.size w0 w) {n : Int} (hn : 1 ≤ n ∧ n ≤ 100000) :
    Calls Tryd.prog 58 #[.pointer (some ⟨g, 0, none⟩), .int .i64 n] w fun e w' => ∃ x : Bool, e = .returned (.bool x) ∧ Cu w0 w' g code (m + 2) ∧ Below w0.heap.size w0 w' ∧ KeepBut w w' g none := by
  obtain ⟨ix, sd, a, b, c⟩ := hI
  obtain ⟨x, i2, sd2, e, hx, h1, h2⟩ := pick_any hc (ix := ix) (by omega) sd hn
  have f : spec_l1Cur_one.f code ix sd n = some ((x == 0), i2, sd2) := by unfold spec_l1Cur_one.f; rw [e]; rfl
  exact (spec_l1Cur_one.calls g code ix sd n _ i2 sd2 w0 w c hB f).mono fun e w' ⟨he, hi, hb, hk⟩ => ⟨_, he, ⟨i2, sd2, by omega, by omega, hi⟩, hb, hk⟩
theorem amongC {code : List Int} (hc : Bytes code) {w0 w : World} {g m : Nat} (hI : Cu w0 w g code m) (hm : m ≤ 1000) (hB : Below w0.heap.size w0 w) {A1 : Option Addr} {c1 : Nat} (l : List Int) (hr : Kd.C (Kd.int .i64) w A1 l.length l) (hc1 : l.length ≤ c1) (hf : ∀ ad, A1 = some ad → 0 < l.length → ad.block ≠ g) (hl : 1 ≤ l.length ∧ l.length ≤ 1000) :
    Calls Tryd.prog 62 #[.pointer (some ⟨g, 0, none⟩), .slice A1 l.length c1] w fun e w' => ∃ x ∈ l, e = .returned (.int .i64 x) ∧ Cu w0 w' g code (m + 2) ∧ Below w0.heap.size w0 w' ∧ KeepBut w w' g none := by
  obtain ⟨ix, sd, a, b, c⟩ := hI
  obtain ⟨x, i2, sd2, e, hx, h1, h2⟩ := pick_any hc (ix := ix) (by omega) sd (n := (l.length : Int)) (by omega)
  have f : spec_l1Cur_among.f code ix sd l = some (rd l x, i2, sd2) := by
    unfold spec_l1Cur_among.f; rw [e]
    simp only [Option.bind_some]
    rw [if_pos hx.1, if_pos hx.2]
  exact (spec_l1Cur_among.calls g code ix sd A1 c1 l _ i2 sd2 w0 w c hB hr hc1 hf f).mono fun e w' ⟨he, hi, hb, hk⟩ => ⟨_, rd_mem hx, he, ⟨i2, sd2, by omega, by omega, hi⟩, hb, hk⟩
theorem ofC {code : List Int} (hc : Bytes code) {w0 w : World} {g m : Nat} (hI : Cu w0 w g code m) (hm : m ≤ 1000) (hB : Below w0.heap.size w0 w) {A1 : Option Addr} {c1 : Nat} (l : List ByteArray) (hr : Kd.C Kd.string w A1 l.length l) (hc1 : l.length ≤ c1) (hf : ∀ ad, A1 = some ad → 0 < l.length → ad.block ≠ g) (hl : 1 ≤ l.length ∧ l.length ≤ 1000) :
    Calls Tryd.prog 56 #[.pointer (some ⟨g, 0, none⟩), .slice A1 l.length c1] w fun e w' => ∃ x ∈ l, e = .returned (.string x) ∧ Cu w0 w' g code (m + 2) ∧ Below w0.heap.size w0 w' ∧ KeepBut w w' g none := by
  obtain ⟨ix, sd, a, b, c⟩ := hI
  obtain ⟨x, i2, sd2, e, hx, h1, h2⟩ := pick_any hc (ix := ix) (by omega) sd (n := (l.length : Int)) (by omega)
  have f : spec_l1Cur_of.f code ix sd l = some (rdOf ByteArray.empty l x, i2, sd2) := by
    unfold spec_l1Cur_of.f; rw [e]
    simp only [Option.bind_some]
    rw [if_pos hx.1, if_pos hx.2]
  exact (spec_l1Cur_of.calls g code ix sd A1 c1 l _ i2 sd2 w0 w c hB hr hc1 hf f).mono fun e w' ⟨he, hi, hb, hk⟩ => ⟨_, rdOf_mem hx, he, ⟨i2, sd2, by omega, by omega, hi⟩, hb, hk⟩
theorem any1C {code : List Int} (hc : Bytes code) {w0 w : World} {g m : Nat} (hI : Cu w0 w g code m) (hm : m ≤ 1000) (hB : Below w0.heap.size w0 w) :
    Calls Tryd.prog 55 #[.pointer (some ⟨g, 0, none⟩)] w fun e w' => ∃ x : ByteArray, x.size ≤ 20 ∧ e = .returned (.string x) ∧ Cu w0 w' g code (m + 2) ∧ Below w0.heap.size w0 w' ∧ KeepBut w w' g none := by
  obtain ⟨ix, sd, a, b, c⟩ := hI
  obtain ⟨x, i2, sd2, e, hx, h1, h2⟩ := pick_any hc (ix := ix) (by omega) sd (n := 9) (by omega)
  have f : ∃ y, spec_l1Cur_any1.f code ix sd = some (y, i2, sd2) ∧ y.size ≤ 20 := by
    unfold spec_l1Cur_any1.f spec_l1Cur_of.f
    simp only [List.length_cons, List.length_nil, Nat.zero_add, Nat.reduceAdd]
    rw [show ((9 : Nat) : Int) = 9 from rfl, e]
    simp only [Option.bind_some]
    rw [if_pos hx.1, if_pos hx.2]
    simp only [Option.bind_some]
    refine ⟨_, rfl, ?_⟩
    generalize hl : ([(⟨#[]⟩ : ByteArray), (⟨#[97]⟩ : ByteArray), (⟨#[97, 44, 98]⟩ : ByteArray), (⟨#[115, 111, 109, 101, 32, 119, 111, 114, 100, 115]⟩ : ByteArray), (⟨#[120, 35, 121]⟩ : ByteArray), (⟨#[45, 49, 50]⟩ : ByteArray), (⟨#[0, 255]⟩ : ByteArray), (⟨#[44, 44]⟩ : ByteArray), (⟨#[48]⟩ : ByteArray)] : List ByteArray) = l
    have hm := rdOf_mem (l := l) (x := x) (by rw [← hl]; exact hx)
    have ha : ∀ y ∈ l, y.size ≤ 20 := by
      rw [← hl]
      intro y hy
      simp only [List.mem_cons, List.not_mem_nil, or_false] at hy
      rcases hy with rfl | rfl | rfl | rfl | rfl | rfl | rfl | rfl | rfl <;> decide
    exact ha _ hm
  obtain ⟨y, f, hy⟩ := f
  exact (spec_l1Cur_any1.calls g code ix sd y i2 sd2 w0 w c hB f).mono fun e w' ⟨he, hi, hb, hk⟩ => ⟨y, hy, he, ⟨i2, sd2, by omega, by omega, hi⟩, hb, hk⟩
theorem C_new (w : World) (L : List ByteArray) (t : TypeId) (hl : L.length ≤ 1000) : Kd.C Kd.string (w.alloc (.cells (L.map Value.string).toArray t)) (some ⟨w.heap.size, 0, none⟩) L.length L := by
  have h : Kd.R Kd.string t (w.alloc (.cells (L.map Value.string).toArray t)) w.heap.size (fun _ => True) (.slice (some ⟨w.heap.size, 0, none⟩) L.length L.length) L :=
    Kd.R_of_own (enc := Value.string) ⟨by simp [encs], Or.inr ⟨w.heap.size, L.length, (L.map Value.string).toArray, rfl, Nat.le_refl _, heap_alloc_new w _, Nat.le_refl _, by unfold maxLen; omega, by simp, by rw [Nat.mul_one, List.toList_toArray, List.take_of_length_le (by simp)]; rfl⟩⟩ (fun _ _ => trivial)
  exact (Kd.R_reads' h).2.2
theorem I_new (w : World) (L : List Int) (t : TypeId) (hl : L.length ≤ 1000) : Kd.C (Kd.int .i64) (w.alloc (.cells (L.map (Value.int .i64)).toArray t)) (some ⟨w.heap.size, 0, none⟩) L.length L := by
  have h : Kd.R (Kd.int .i64) t (w.alloc (.cells (L.map (Value.int .i64)).toArray t)) w.heap.size (fun _ => True) (.slice (some ⟨w.heap.size, 0, none⟩) L.length L.length) L :=
    Kd.R_of_own (enc := Value.int .i64) ⟨by simp [encs], Or.inr ⟨w.heap.size, L.length, (L.map (Value.int .i64)).toArray, rfl, Nat.le_refl _, heap_alloc_new w _, Nat.le_refl _, by unfold maxLen; omega, by simp, by rw [Nat.mul_one, List.toList_toArray, List.take_of_length_le (by simp)]; rfl⟩⟩ (fun _ _ => trivial)
  exact (Kd.R_reads' h).2.2
set_option maxHeartbeats 1600000 in
theorem drawSplit_any {code : List Int} (hc : Bytes code) (A : Option Addr) (cap : Nat) (w : World) (hC : Kd.C (Kd.int .u8) w A code.length code) :
    Calls Tryd.prog 24 #[.slice A code.length cap] w fun e w' => ∃ s sep : ByteArray, s.size ≤ 100 ∧ sep.size ≤ 100 ∧ e = .returned (.tuple #[.string s, .string sep]) ∧ Below w.heap.size w w' := by
  have HC := Aside0.mk hC
  clear hC
  go_enter Tryd.func24, Tryd.ntmps24
  go_wp2_with fail
  refine (any1C hc (cu_new HC.out) (by omega) (below_alloc (Below.refl _ _) _)).mono ?_
  rintro e w1 ⟨s, hs, rfl, hI, hB, _⟩
  have HS := Aside0.mk hs
  have HI := Aside0.mk hI
  have HB := Aside0.mk hB
  clear hs hI hB
  go_wp2_with fail
  refine (ofC hc (HI.out.below (below_alloc (Below.refl _ _) _)) (by omega) (below_alloc HB.out _) [⟨#[44]⟩, ⟨#[44]⟩, ⟨#[32]⟩, ⟨#[]⟩, ⟨#[44, 44]⟩] (C_new w1 [⟨#[44]⟩, ⟨#[44]⟩, ⟨#[32]⟩, ⟨#[]⟩, ⟨#[44, 44]⟩] 9 (by simp)) (by simp) (by rintro ad hA _ e; cases hA; have := HI.out.lt; simp only at e; omega) (by simp)).mono ?_
  rintro e w2 ⟨sep, hm, rfl, hI2, hB2, _⟩
  have HM := Aside0.mk hm
  have HB2 := Aside0.mk hB2
  clear hm hI2 hB2 HI HB
  go_wp2_with fail
  go_ret2
  refine ⟨s, sep, Nat.le_trans HS.out (by omega), ?_, rfl, HB2.out⟩
  have hm := HM.out
  simp only [List.mem_cons, List.not_mem_nil, or_false] at hm
  rcases hm with rfl | rfl | rfl | rfl | rfl <;> decide
set_option maxHeartbeats 1600000 in
theorem drawLess_any {code : List Int} (hc : Bytes code) (A : Option Addr) (cap : Nat) (w : World) (hC : Kd.C (Kd.int .u8) w A code.length code) :
    Calls Tryd.prog 28 #[.slice A code.length cap] w fun e w' => ∃ a b : ByteArray, e = .returned (.tuple #[.string a, .string b]) ∧ Below w.heap.size w w' := by
  have HC := Aside0.mk hC
  clear hC
  go_enter Tryd.func28, Tryd.ntmps28
  go_wp2_with fail
  refine (any1C hc (cu_new HC.out) (by omega) (below_alloc (Below.refl _ _) _)).mono ?_
  rintro e w1 ⟨a, _, rfl, hI, hB, _⟩
  have HI := Aside0.mk hI
  have HB := Aside0.mk hB
  clear hI hB
  go_wp2_with fail
  refine (any1C hc HI.out (by omega) HB.out).mono ?_
  rintro e w2 ⟨b, _, rfl, hI2, hB2, _⟩
  have HB2 := Aside0.mk hB2
  clear hI2 hB2 HI HB
  go_wp2_with fail
  go_ret2
  exact ⟨a, b, rfl, HB2.out⟩
set_option maxHeartbeats 3200000 in
theorem drawJoin_any {code : List Int} (hc : Bytes code) (A : Option Addr) (cap : Nat) (w : World) (hC : Kd.C (Kd.int .u8) w A code.length code) :
    Calls Tryd.prog 25 #[.slice A code.length cap] w fun e w' => ∃ (v : Value) (L : List ByteArray) (mark : ByteArray), L.length ≤ 10 ∧ (∀ x ∈ L, x.size ≤ 5000) ∧ mark.size ≤ 100 ∧ e = .returned (.tuple #[v, .string mark]) ∧ Kd.R Kd.string 9 w' w.heap.size (fun _ => True) v L ∧ Below w.heap.size w w' := by
  have HC := Aside0.mk hC
  clear hC
  go_enter Tryd.func25, Tryd.ntmps25
  go_wp2_with fail
  refine (pickC hc ((cu_new HC.out).below (below_alloc (Below.refl _ _) _)) (by omega) (below_alloc (below_alloc (Below.refl _ _) _) _) (n := 4) (by omega)).mono ?_
  rintro e w1 ⟨n, hn, rfl, hI, hB, hK⟩
  have hR0 : Kd.R Kd.string 9 ((w.alloc (.cells #[.slice A code.length cap, .int .i64 0, .int .u64 0] 66)).alloc (.cells #[] 9)) w.heap.size (fun k => k ≠ w.heap.size) (.slice (some ⟨w.heap.size + 1, 0, none⟩) 0 0) [] :=
    Kd.R_of_own (enc := Value.string) ⟨rfl, Or.inr ⟨w.heap.size + 1, 0, #[], rfl, by omega, by
      have hh := heap_alloc_new (w.alloc (.cells #[.slice A code.length cap, .int .i64 0, .int .u64 0] 66)) (.cells #[] 9)
      simpa using hh, Nat.le_refl _, by simp, rfl, rfl⟩⟩ (fun k hk => by simp [Value.ownBlock] at hk; omega)
  have HR := Aside0.mk (Kd.R_step hR0 (fun k hok hk => hK.2 k hk hok (by simp)))
  have HI := Aside0.mk hI
  have HB := Aside0.mk hB
  have HN := Aside0.mk hn
  clear hR0 hI hB hK hn
  go_wp2_with fail
  go_loopw [5, 7] (fun v5 v7 wr => ∃ (L : List ByteArray) (j : Nat), j ≤ 4 ∧ v7 = .int .i64 (j : Int) ∧ Aside0 (L.length = j ∧ ∀ x ∈ L, x.size ≤ 5000) ∧ Aside0 (Kd.R Kd.string 9 wr w.heap.size (fun k => k ≠ w.heap.size) v5 L) ∧ Aside0 (Cu w wr w.heap.size code (2 + 2 * j)) ∧ Aside0 (Below w.heap.size w wr)) (fun _ v7 _ => 4 - (intOf v7).toNat)
  case atStart => exact ⟨[], 0, by omega, rfl, ⟨rfl, fun x hx => by cases hx⟩, HR, HI, HB⟩
  case round =>
    clear HR HI HB
    obtain ⟨L, j, hj, rfl, HL, HR, HI, HB⟩ := hrel
    by_cases c : (j : Int) < n
    · have c0 : decide ((j : Int) < n) = true := decide_eq_true c
      have jn := Aside0.mk (show j < 4 by have := HN.out; omega)
      clear c
      go_wp2_with fail
      refine (any1C hc HI.out (by omega) HB.out).mono ?_
      rintro e w2 ⟨x, hx, rfl, hI, hB, hK⟩
      have HR2 := Aside0.mk (Kd.R_step HR.out (fun k hok hk => hK.2 k hk hok (by simp)))
      have HI2 := Aside0.mk hI
      have HB2 := Aside0.mk hB
      have HX := Aside0.mk hx
      clear hI hB hK hx HR HI HB
      go_wp2_with (first | (at_builtin; refine Kd.R_append Kd.string (w0 := w) w.heap.size rfl (.tmp 19) (.tmp 22) 25 9 (.string ⟨#[]⟩) 16 rfl Tryd.underlying25 infoS rfl (by decide) (by omega) _ _ _ [_] (fun k => k ≠ w.heap.size) (fun _ => False) rfl (by first | (go_simp; done) | (go_simp; rfl)) rfl (fun _ h => h.elim) (fun k hk => by have := HI2.out.lt; omega) HR2.out HB2.out HB2.out.size (by have := HL.out.1; omega) ?_; intro v1 w3 hO3 hB3 hg3 hat3; have HI4 := Aside0.mk (HI2.out.grown hg3 (fun e => HR2.out.1 _ e.symm rfl)); have HO4 := Aside0.mk hO3; have HB4 := Aside0.mk hB3; clear hO3 hB3 hg3 hat3) | fail)
      refine ⟨⟨L ++ [x], j + 1, by have := jn.out; omega, ?_, ⟨by rw [List.length_append, HL.out.1]; rfl, ?_⟩, HO4, HI4, HB4⟩, ?_⟩
      · rfl
      · intro y hy
        rcases List.mem_append.1 hy with h | h
        · exact HL.out.2 y h
        · rw [List.mem_singleton.1 h]; exact Nat.le_trans HX.out (by omega)
      · simp only [intOf]
        have := jn.out
        omega
    · have c0 : decide ((j : Int) < n) = false := decide_eq_false c
      clear c
      go_wp2_with fail
      refine (oneC hc HI.out (by omega) HB.out (n := 20) (by omega)).mono ?_
      rintro e w2 ⟨b, rfl, hI, hB, hK⟩
      have HR2 := Aside0.mk (Kd.R_step HR.out (fun k hok hk => hK.2 k hk hok (by simp)))
      have HI2 := Aside0.mk hI
      have HB2 := Aside0.mk hB
      clear hI hB hK HR HI HB
      cases b
      · go_wp2_with fail
        refine (ofC hc (HI2.out.below (below_alloc (Below.refl _ _) _)) (by omega) (below_alloc HB2.out _) [⟨#[44]⟩, ⟨#[59]⟩, ⟨#[59]⟩, ⟨#[]⟩, ⟨#[97, 98]⟩] (C_new w2 [⟨#[44]⟩, ⟨#[59]⟩, ⟨#[59]⟩, ⟨#[]⟩, ⟨#[97, 98]⟩] 9 (by simp)) (by simp) (by rintro ad hA _ e; cases hA; have := HI2.out.lt; simp only at e; omega) (by simp)).mono ?_
        rintro e w3 ⟨mark, hm, rfl, hI, hB, hK⟩
        have HR3 := Aside0.mk (Kd.R_step (Kd.R_alloc HR2.out _) (fun k hok hk => hK.2 k hk hok (by simp)))
        have HB3 := Aside0.mk hB
        have HM := Aside0.mk hm
        clear hI hB hK hm HR2 HI2 HB2
        go_wp2_with fail
        go_ret2
        refine ⟨_, L, mark, by have := HL.out.1; omega, HL.out.2, ?_, rfl, Kd.R_mono HR3.out (fun _ _ => trivial), HB3.out⟩
        have hm := HM.out
        simp only [List.mem_cons, List.not_mem_nil, or_false] at hm
        rcases hm with rfl | rfl | rfl | rfl | rfl <;> decide
      · go_wp2_with fail
        refine (pickC hc HI2.out (by omega) HB2.out (n := 20) (by omega)).mono ?_
        rintro e w3 ⟨x, hx, rfl, hI, hB, hK⟩
        have HR3 := Aside0.mk (Kd.R_step HR2.out (fun k hok hk => hK.2 k hk hok (by simp)))
        have HI3 := Aside0.mk hI
        have HB3 := Aside0.mk hB
        have en : wrap64 (3990 + x) = 3990 + x := wrap_id (by omega) (by omega)
        have HX := Aside0.mk hx
        clear hI hB hK hx HR2 HI2 HB2
        go_wp2_with (first | ((with_reducible refine gate_dst (N := 30) rfl ?_); refine Kd.R_make (Kd.int .u8) w3.heap.size 5 rfl (N := 30) rfl 33 _ _ rfl (3990 + x) ?hx1 ?hx2 Tryd.underlying33 (.int .u8 0) 1 infoB rfl (by decide) (by omega) (0 : Int) (ok := fun _ => True) (okp := fun _ => True) rfl (fun _ hk => hk) trivial (by have := HX.out; omega) (by have := HX.out; omega) (Below.refl _ _) (Nat.le_refl _) ?_; (case hx1 => first | (go_simp; done) | (go_simp; rfl) | rfl); (case hx2 => first | (go_simp; done) | (go_simp; rfl) | rfl); intro v30 w4 ho5 hb5 hg5 hn5; have HV := Aside0.mk ho5; have HB4 := Aside0.mk (below_chain HB3.out hb5); have HR4 := Aside0.mk (Kd.R_below HR3.out hb5); have HI4 := Aside0.mk (HI3.out.below hb5); clear ho5 hb5 hg5 hn5 HR3 HI3 HB3; have hcv := own_string (P := Tryd.prog) Tryd.underlying33 Tryd.underlying5 Tryd.underlying9 (Kd.own_of_R HV.out)) | (at_builtin; refine Kd.R_append Kd.string (w0 := w) w.heap.size rfl (.tmp 26) (.tmp 32) 25 9 (.string ⟨#[]⟩) 16 rfl Tryd.underlying25 infoS rfl (by decide) (by omega) _ _ _ [_] (fun k => k ≠ w.heap.size) (fun _ => False) rfl (by first | (go_simp; done) | (go_simp; rfl)) rfl (fun _ h => h.elim) (fun k hk => by have := HI4.out.lt; omega) HR4.out HB4.out HB4.out.size (by have := HL.out.1; omega) ?_; intro v1 w5 hO3 hB3 hg3 hat3; have HI5 := Aside0.mk (HI4.out.grown hg3 (fun e => HR4.out.1 _ e.symm rfl)); have HR5 := Aside0.mk hO3; have HB5 := Aside0.mk hB3; clear hO3 hB3 hg3 hat3 HR4 HI4 HB4) | fail)
        refine (ofC hc (HI5.out.below (below_alloc (Below.refl _ _) _)) (by omega) (below_alloc HB5.out _) [⟨#[44]⟩, ⟨#[59]⟩, ⟨#[59]⟩, ⟨#[]⟩, ⟨#[97, 98]⟩] (C_new w5 [⟨#[44]⟩, ⟨#[59]⟩, ⟨#[59]⟩, ⟨#[]⟩, ⟨#[97, 98]⟩] 9 (by simp)) (by simp) (by rintro ad hA _ e; cases hA; have := HI5.out.lt; simp only at e; omega) (by simp)).mono ?_
        rintro e w6 ⟨mark, hm, rfl, hI, hB, hK⟩
        have HR6 := Aside0.mk (Kd.R_step (Kd.R_alloc HR5.out _) (fun k hok hk => hK.2 k hk hok (by simp)))
        have HB6 := Aside0.mk hB
        have HM := Aside0.mk hm
        clear hI hB hK hm HR5 HI5 HB5
        go_wp2_with fail
        go_ret2
        refine ⟨_, _, mark, ?_, ?_, ?_, rfl, Kd.R_mono HR6.out (fun _ _ => trivial), HB6.out⟩
        · rw [List.length_append, HL.out.1]; simp only [List.length_cons, List.length_nil]; omega
        · intro y hy
          rcases List.mem_append.1 hy with h | h
          · exact HL.out.2 y h
          · rw [List.mem_singleton.1 h, strOfNums_size, List.length_replicate]; have := HX.out; omega
        · have hm := HM.out
          simp only [List.mem_cons, List.not_mem_nil, or_false] at hm
          rcases hm with rfl | rfl | rfl | rfl | rfl <;> decide
end Go.Proofs.YtidnebhdjkdofaaDoor
