/- ParseInt (Door seat): the walks. No statement of the seat is proved here. -/
import Derived.Test.YtidnebhdjkdofaaDoorParse
import Derived.Test.YtidnebhdjkdofaaDoorShelfD
import Derived.Lib.ConvBytes
import Derived.Lib.LaidU8
namespace Go.Proofs.YtidnebhdjkdofaaDoor
open Go.RowKit Go.Proofs.YtidnebhdjkdofaaDoorW.PrintWords Go.Proofs.YtidnebhdjkdofaaDoor.QStr
set_option linter.unusedVariables false
set_option linter.unusedSimpArgs false
/-- the two errors of strconv are there -/
def EV (w : World) : Prop := (∃ u v, w.cell? ⟨1, 0, none⟩ = some (.iface u v)) ∧ ∃ u v, w.cell? ⟨2, 0, none⟩ = some (.iface u v)
theorem ev_keep {w w' : World} (h : EV w) (hb : Below w.heap.size w w') : EV w' := by
  obtain ⟨⟨u, v, h1⟩, u2, v2, h2⟩ := h
  exact ⟨⟨u, v, keep_below hb h1⟩, u2, v2, keep_below hb h2⟩
theorem iface_of_reads {P : Program} {W : World} {name nm : String} {d : DataW Unit} {g : Nat} {ti : TypeId} {ms : Array (String × TypeId)}
    (hg : P.globalNamed name = some g) (ht : (P.globals[g]?).map (·.type) = some ti) (hi : P.underlying ti = some (.interface ms)) (h : Lib.VarReads P W name (.iface nm d)) : ∃ u v, W.cell? ⟨g, 0, none⟩ = some (.iface u v) := by
  obtain ⟨g', t', cs, fuel, p, hg', ht', hv, hd⟩ := h
  obtain rfl := Option.some.inj (hg.symm.trans hg')
  obtain rfl := Option.some.inj (ht.symm.trans ht')
  have hc := World.var?_cell hg hv 0
  obtain ⟨l⟩ := cs
  cases fuel with
  | zero => simp [DataW.trod] at hd
  | succ fuel =>
    match l with
    | [] => simp [DataW.trod, hi] at hd
    | [x] =>
      cases x with
      | iface u v => exact ⟨u, v, by simpa using hc⟩
      | _ => simp [DataW.trod, hi] at hd
    | x :: y :: r => simp [DataW.trod, hi] at hd
theorem atoi_any (s : ByteArray) (hs : s.size ≤ 1048576) (w : World) (he : EV w) : (∃ v, Lib.atoiAll s.data.toList = .ok v ∧ Calls Tryd.prog 61 #[.string s] w fun e w' => e = .returned (.tuple #[.int .i64 v, .nilIface]) ∧ Below w.heap.size w w') ∨
    ((∀ v, Lib.atoiAll s.data.toList ≠ .ok v) ∧ ∃ x, Calls Tryd.prog 61 #[.string s] w fun e w' => ∃ N, e = .returned (.tuple #[.int .i64 x, .iface 99 (.pointer (some ⟨N, 0, none⟩))]) ∧ Below w.heap.size w w') := by
  obtain ⟨⟨u, v, h1⟩, u2, v2, h2⟩ := he
  cases h : Lib.atoiAll s.data.toList with
  | ok v =>
    left
    refine ⟨v, rfl, (Tryd.strconv_Atoi_ok s (by omega) v h w).mono fun e w' ⟨he, hw⟩ => ⟨he, ?_⟩⟩
    rcases hw with rfl | ⟨t, rfl⟩
    · exact Below.refl _ _
    · exact Lib.bytesWorld_below _ _ _
  | «syntax» =>
    right
    refine ⟨(fun v hv => by cases hv), _, (Tryd.strconv_Atoi_syntax s (by omega) h _ w h1 (Or.inr ⟨_, _, rfl⟩)).mono fun e w' ⟨N, he, _, _, hb⟩ => ⟨N, he, hb⟩⟩
  | range =>
    right
    refine ⟨(fun v hv => by cases hv), _, (Tryd.strconv_Atoi_range s (by omega) h _ w h2 (Or.inr ⟨_, _, rfl⟩)).mono fun e w' ⟨N, he, _, _, hb⟩ => ⟨N, he, hb⟩⟩
set_option maxHeartbeats 1600000 in
theorem implParse_any (s : ByteArray) (hs : s.size ≤ 1048576) (w : World) (ht : Tab w) (he : EV w) :
    Calls Tryd.prog 32 #[.string s] w fun e w' => e = .returned (.tuple #[.int .i64 (readR s).1, .bool (readR s).2]) ∧ Below w.heap.size w w' := by
  have hF : ∀ v W, Below w.heap.size w W → Calls Tryd.prog 13 #[.int .i64 v] W fun e w' => e = .returned (.tuple #[.string (fmtB v), .bool (inB (-999999) 999999 v)]) ∧ Below w.heap.size w w' := fun v W hb =>
    (implFormatInt_any v W (tab_keep ht hb)).mono fun e w' ⟨he, hb2⟩ => ⟨he, below_chain hb hb2⟩
  rcases atoi_any s hs w he with ⟨v, ha, hA⟩ | ⟨hn, x, hA⟩
  · have hF := hF v
    have key : (readR s = (v, true) ∧ inB (-999999) 999999 v = true ∧ fmtB v = s) ∨ (readR s = (0, false) ∧ (inB (-999999) 999999 v = false ∨ (inB (-999999) 999999 v = true ∧ (fmtB v).toList ≠ s.toList))) := by
      rcases parse_cases s with ⟨v', a, b1, b2, e, r⟩ | ⟨r, h⟩
      · left
        rw [a] at ha
        obtain rfl : v' = v := by injection ha
        have g : inB (-999999) 999999 v' = true := by rw [inB_iff]; exact ⟨b1, b2⟩
        exact ⟨r, g, by unfold fmtB; rw [g]; exact e⟩
      · right
        refine ⟨r, ?_⟩
        rcases h v ha with g | ⟨g, ne⟩
        · exact Or.inl g
        · exact Or.inr ⟨g, fun h => ne (by have := (tl_iff _ _).1 h; unfold fmtB at this; rw [g] at this; exact this)⟩
    clear ht he hs ha
    rcases key with ⟨e1, e2, e3⟩ | ⟨e1, e2 | ⟨e2, e3⟩⟩
    · rw [e1]
      rw [e2, e3] at hF
      clear e1 e2 e3
      go_enter Tryd.func32, Tryd.ntmps32
      go_wp2_with (first | (go_at_call 61; refine hA.mono ?_; rintro e w1 ⟨rfl, hb1⟩; have HB := Aside0.mk hb1; clear hb1) | (go_at_call 13; refine (hF _ HB.out).mono ?_; rintro e w' ⟨rfl, hb⟩) | (go_quiet (fail)) | fail)
      go_ret2
      exact ⟨rfl, hb⟩
    · rw [e1]
      rw [e2] at hF
      clear e1 e2
      generalize fmtB v = r at hF
      go_enter Tryd.func32, Tryd.ntmps32
      go_wp2_with (first | (go_at_call 61; refine hA.mono ?_; rintro e w1 ⟨rfl, hb1⟩; have HB := Aside0.mk hb1; clear hb1) | (go_at_call 13; refine (hF _ HB.out).mono ?_; rintro e w' ⟨rfl, hb⟩) | (go_quiet (fail)) | fail)
      go_ret2
      exact ⟨rfl, hb⟩
    · rw [e1]
      rw [e2] at hF
      clear e1 e2
      generalize fmtB v = r at hF e3
      have ne3 : (r.toList = s.toList) = False := eq_false e3
      have ne4 : (r.toList == s.toList) = false := by simpa using e3
      go_enter Tryd.func32, Tryd.ntmps32
      go_wp2_with (first | (go_at_call 61; refine hA.mono ?_; rintro e w1 ⟨rfl, hb1⟩; have HB := Aside0.mk hb1; clear hb1) | (go_at_call 13; refine (hF _ HB.out).mono ?_; rintro e w' ⟨rfl, hb⟩) | (go_quiet (fail)) | fail)
      go_ret2
      exact ⟨rfl, hb⟩
  · have e1 : readR s = (0, false) := by
      rcases parse_cases s with ⟨v', a, _⟩ | ⟨r, _⟩
      · exact absurd a (hn v')
      · exact r
    rw [e1]
    clear ht he hs hF hn e1
    go_enter Tryd.func32, Tryd.ntmps32
    go_wp2_with (first | (go_at_call 61; refine hA.mono ?_; rintro e w1 ⟨N, rfl, hb⟩) | (go_quiet (fail)) | fail)
    go_ret2
    exact ⟨rfl, hb⟩
set_option maxHeartbeats 1600000 in
theorem lawParse_any (s : ByteArray) (w : World) (ht : Tab w) (he : EV w) : Calls Tryd.prog 8 #[.string s] w fun e w' => e = .returned (.bool true) ∧ Below w.heap.size w w' := by
  by_cases big : s.size ≤ 1048576
  · have d1 : decide ((1048576 : Int) < (s.size : Int)) = false := decide_eq_false (by omega)
    have d2 : decide (1048576 < s.size) = false := decide_eq_false (by omega)
    have hs := spec_ParseInt.calls 20 s (readR s).1 (readR s).2 w (parse_spec s big)
    have hi : ∀ n, Calls Tryd.prog 32 #[.string s] (w.drewN n) fun e w' => e = .returned (.tuple #[.int .i64 (readR s).1, .bool (readR s).2]) ∧ Below w.heap.size w w' := fun n =>
      (implParse_any s big (w.drewN n) (tab_keep ht (Drawn0.below ⟨n, rfl⟩)) (ev_keep he (Drawn0.below ⟨n, rfl⟩))).mono fun e w' ⟨he, hb⟩ => ⟨he, by
        have b1 : Below w.heap.size w (w.drewN n) := Drawn0.below ⟨n, rfl⟩
        exact b1.trans hb⟩
    clear ht he big
    generalize (readR s).1 = r at hs hi
    generalize (readR s).2 = o at hs hi
    go_enter Tryd.func8, Tryd.ntmps8
    go_wp2_with (first | (go_at_call 31; refine hs.mono ?_; rintro e w' ⟨rfl, ⟨nd, rfl⟩⟩) | (go_at_call 32; refine (hi _).mono ?_; rintro e w' ⟨rfl, hb⟩) | (go_quiet (fail)) | fail)
    go_ret
    exact ⟨rfl, hb⟩
  · have d1 : decide ((1048576 : Int) < (s.size : Int)) = true := decide_eq_true (by omega)
    have d2 : decide (1048576 < s.size) = true := decide_eq_true (by omega)
    clear ht he
    go_enter Tryd.func8, Tryd.ntmps8
    go_wp2_with (first | (go_quiet (fail)) | fail)
    go_ret
    exact ⟨rfl, Below.refl _ _⟩
end Go.Proofs.YtidnebhdjkdofaaDoor
