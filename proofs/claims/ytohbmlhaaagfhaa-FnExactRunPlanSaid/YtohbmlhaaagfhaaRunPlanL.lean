/- RunPlan: the law's walk. No statement of the seat is proved here. -/
import Derived.Test.YtohbmlhaaagfhaaMarkI
import Derived.Test.YtohbmlhaaagfhaaPRunPlan
import Derived.Test.YtohbmlhaaagfhaaKit
import Derived.Deep.RegionHeld3
import Derived.Deep.DeepCutAuto
namespace Go.Proofs.Ytohbmlhaaagfhaa
open Go.RowKit Go.Proofs.YtohbmlhaaagfhaaW.PrintWords Go.Proofs.YtohbmlhaaagfhaaW.PrintLast Go.Proofs.Ytohbmlhaaagfhaa.QAll
set_option linter.unusedVariables false
set_option linter.unusedSimpArgs false
/-- one call's memory, apart from what a region says of all -/
structure Nx (W w1 : World) : Prop where
  out : Below W.heap.size W w1
theorem Nx.blk {W w1 : World} {g : Nat} {o : Obj} (n : Nx W w1) (h : W.heap[g]? = some o) : w1.heap[g]? = some o := blk_below h n.out
def Bx (W : World) (B : Nat) (f : Nat → Int) : Prop := W.cell? ⟨B, 0, none⟩ = some (.int .i64 (f 0)) ∧ W.cell? ⟨B, 1, none⟩ = some (.int .i64 (f 1)) ∧ W.cell? ⟨B, 2, none⟩ = some (.int .i64 (f 2)) ∧ W.cell? ⟨B, 3, none⟩ = some (.int .i64 (f 3))
theorem Bx.lt {W : World} {B : Nat} {f : Nat → Int} (h : Bx W B f) : B < W.heap.size := World.block_lt_of_cell? W _ h.1
theorem Bx.same {W W' : World} {B : Nat} {f : Nat → Int} (h : Bx W B f) (e : W'.heap[B]? = W.heap[B]?) : Bx W' B f := by
  unfold Bx World.cell? at *
  simp only [e]
  exact h
theorem Bx.below {W W' : World} {B : Nat} {f : Nat → Int} (h : Bx W B f) (hb : Below W.heap.size W W') : Bx W' B f := h.same (hb.block B h.lt)
theorem cell_far {w : World} {g B i j : Nat} {v u : Value} (h : w.cell? ⟨g, i, none⟩ = some v) (ne : g ≠ B) : (w.setCell ⟨B, j, none⟩ u).cell? ⟨g, i, none⟩ = some v := by
  rw [World.cell?_setCell_other (w := w) (h := fun e => ne (by injection e with e1 _; exact e1.symm))]; exact h
def set4 (W : World) (B : Nat) (g : Nat → Int) : World := (((W.setCell ⟨B, 0, none⟩ (.int .i64 (g 0))).setCell ⟨B, 1, none⟩ (.int .i64 (g 1))).setCell ⟨B, 2, none⟩ (.int .i64 (g 2))).setCell ⟨B, 3, none⟩ (.int .i64 (g 3))
theorem box4 {W : World} {B T : Nat} {a0 a1 a2 a3 : Value} {g : Nat → Int} (h : W.heap[B]? = some (.cells #[a0, a1, a2, a3] T (0, 0))) : Bx (set4 W B g) B g := by
  have h4 := blk_set (blk_set (blk_set (blk_set h 0 (.int .i64 (g 0))) 1 (.int .i64 (g 1))) 2 (.int .i64 (g 2))) 3 (.int .i64 (g 3))
  exact ⟨(blk_cell h4 0).trans rfl, (blk_cell h4 1).trans rfl, (blk_cell h4 2).trans rfl, (blk_cell h4 3).trans rfl⟩
theorem base2 (k s : Nat → Int) (w : World) (T1 T2 : TypeId) : (∀ W0, W0 = (w.alloc (.cells #[.int .i64 (k 0), .int .i64 (k 1), .int .i64 (k 2), .int .i64 (k 3)] T1 (0, 0))).alloc (.cells #[.int .i64 (s 0), .int .i64 (s 1), .int .i64 (s 2), .int .i64 (s 3)] T2 (0, 0)) → Bx W0 w.heap.size k ∧ Bx W0 (w.heap.size + 1) s ∧ W0.heap.size = w.heap.size + 2 ∧ Below w.heap.size w W0) := by
  rintro _ rfl
  have h1 := blk_alloc (heap_alloc_new w (.cells #[.int .i64 (k 0), .int .i64 (k 1), .int .i64 (k 2), .int .i64 (k 3)] T1 (0, 0))) (.cells #[.int .i64 (s 0), .int .i64 (s 1), .int .i64 (s 2), .int .i64 (s 3)] T2 (0, 0))
  have h2 := heap_alloc_new (w.alloc (.cells #[.int .i64 (k 0), .int .i64 (k 1), .int .i64 (k 2), .int .i64 (k 3)] T1 (0, 0))) (.cells #[.int .i64 (s 0), .int .i64 (s 1), .int .i64 (s 2), .int .i64 (s 3)] T2 (0, 0))
  rw [show (w.alloc (.cells #[.int .i64 (k 0), .int .i64 (k 1), .int .i64 (k 2), .int .i64 (k 3)] T1 (0, 0))).heap.size = w.heap.size + 1 by simp] at h2
  refine ⟨⟨(blk_cell h1 0).trans rfl, (blk_cell h1 1).trans rfl, (blk_cell h1 2).trans rfl, (blk_cell h1 3).trans rfl⟩, ⟨(blk_cell h2 0).trans rfl, (blk_cell h2 1).trans rfl, (blk_cell h2 2).trans rfl, (blk_cell h2 3).trans rfl⟩, by simp, ?_⟩
  exact bl_alloc _ (by simp) (bl_alloc _ (Nat.le_refl _) (Below.refl _ _))
theorem set4_keep (W : World) (B : Nat) (g : Nat → Int) : KeepBut W (set4 W B g) B none := ((((KeepBut.refl W B none).set_ 0 _).set_ 1 _).set_ 2 _).set_ 3 _
theorem set4_below {n B : Nat} {w W : World} {g : Nat → Int} (h : Below n w W) (hB : n ≤ B) : Below n w (set4 W B g) := (((h.setCell hB _).setCell hB _).setCell hB _).setCell hB _
theorem box_new {W : World} {T : TypeId} {g : Nat → Int} : Bx (W.alloc (.cells #[.int .i64 (g 0), .int .i64 (g 1), .int .i64 (g 2), .int .i64 (g 3)] T (0, 0))) W.heap.size g := by
  have h := heap_alloc_new W (.cells #[.int .i64 (g 0), .int .i64 (g 1), .int .i64 (g 2), .int .i64 (g 3)] T (0, 0))
  exact ⟨(blk_cell h 0).trans rfl, (blk_cell h 1).trans rfl, (blk_cell h 2).trans rfl, (blk_cell h 3).trans rfl⟩
theorem R_at {e base : Nat} {ok : Nat → Prop} {w : World} {v : Value} {xs : List Int} (h : Kd.R (Kd.int .i64) e w base ok v xs) : ∃ n, n = base ∧ Kd.R (Kd.int .i64) e w n ok v xs := ⟨_, rfl, h⟩
theorem set4_size (W : World) (B : Nat) (g : Nat → Int) : (set4 W B g).heap.size = W.heap.size := by simp [set4, World.setCell]
theorem set4_R {W : World} {base e B : Nat} {v : Value} {xs : List Int} {g : Nat → Int} (h : Kd.R (Kd.int .i64) e W base (fun _ => True) v xs) (hne : ∀ k, v.ownBlock = some k → k ≠ B) : Kd.R (Kd.int .i64) e (set4 W B g) base (fun _ => True) v xs :=
  Kd.R_mono (Kd.R_keep (Kd.R_reok (ok := fun k => k ≠ B) rfl h hne) (set4_keep W B g) (fun k hk => hk)) (fun _ _ => trivial)
set_option maxHeartbeats 60000000 in
set_option maxRecDepth 100000 in
theorem lawRunPlan_main (k s : Nat → Int) (A : Option Addr) (cap : Nat) (l : List Int) (w : World) (hC : Kd.C (Kd.int .i64) w A l.length l) (hcap : l.length ≤ cap) (hl : l.length ≤ 1048576) :
    Calls Try.prog 3 #[A4 k, A4 s, .slice A l.length cap] w fun e w' => e = .returned (.bool true) ∧ Below w.heap.size w w' := by
  have d1 : decide ((1048576 : Int) < (l.length : Int)) = false := decide_eq_false (by omega)
  have d2 : decide (1048576 < l.length) = false := decide_eq_false (by omega)
  obtain ⟨T, x, y, z, u, ok, e1, e2, hT⟩ := runPlan_both (k 0) (k 1) (k 2) (k 3) (s 0) (s 1) (s 2) (s 3) l hl
  obtain ⟨k1, h1⟩ := Ev.rounds e1
  obtain ⟨k2, h2⟩ := Ev.rounds e2
  obtain ⟨k3, h3⟩ := Ev.rounds (toI l hl)
  obtain ⟨k4, h4⟩ := Ev.rounds (eqI_same T (by omega))
  obtain ⟨k5, h5⟩ := Ev.rounds (eqI_same l (by omega))
  obtain ⟨g, hg⟩ : ∃ g : Nat → Int, g = v4 x y z u := ⟨_, rfl⟩
  have hSp : ∀ A2 c2 W, Kd.C (Kd.int .i64) W A2 l.length l → l.length ≤ c2 → Calls Try.prog 7 #[A4 k, A4 s, .slice A2 l.length c2] W fun e w' => ∃ v0 : Value, e = .returned (.tuple #[v0, A4 g, .bool ok]) ∧ Kd.R (Kd.int .i64) 3 w' W.heap.size (fun _ => True) v0 T ∧ Below W.heap.size W w' := fun A2 c2 W hr hc => by
    rw [hg]; exact spec_RunPlan.calls k1 _ _ _ _ _ _ _ _ A2 c2 l T x y z u ok W hr hc h1
  have hIm : ∀ A2 c2 W, Kd.C (Kd.int .i64) W A2 l.length l → l.length ≤ c2 → Calls Try.prog 11 #[A4 k, A4 s, .slice A2 l.length c2] W fun e w' => ∃ v0 : Value, e = .returned (.tuple #[v0, A4 g, .bool ok]) ∧ Kd.R (Kd.int .i64) 3 w' W.heap.size (fun _ => True) v0 T ∧ Below W.heap.size W w' := fun A2 c2 W hr hc => by
    rw [hg]; exact impl_RunPlan.calls k2 _ _ _ _ _ _ _ _ A2 c2 l T x y z u ok W hr hc h2
  have hET := fun A0 A1 c0 c1 W r0 g0 r1 g1 => laws_eqIntS.calls k4 A0 c0 T A1 c1 T true W r0 g0 r1 g1 h4
  have hEL := fun A0 A1 c0 c1 W r0 g0 r1 g1 => laws_eqIntS.calls k5 A0 c0 l A1 c1 l true W r0 g0 r1 g1 h5
  clear e1 e2 h1 h2 h4 h5 hg
  have HT := Aside0.mk hT
  have HL := Aside0.mk hl
  clear hT hl
  go_enter Try.func3, Try.ntmps3
  go_upto_region 3 with fail
  obtain ⟨b0, hb0⟩ : ∃ b, b = w.heap.size := ⟨_, rfl⟩
  obtain ⟨b1, hb1⟩ : ∃ b, b = w.heap.size + 1 := ⟨_, rfl⟩
  have hW := base2 k s w 24 22 _ rfl
  generalize (w.alloc _).alloc _ = W0 at hW ⊢
  obtain ⟨hk, hs, hz0, hbW⟩ := hW
  have hlt : b0 < W0.heap.size ∧ b1 < W0.heap.size := by omega
  obtain ⟨hl0, hl1⟩ := hlt
  rw [← hb0] at hk
  rw [← hb1] at hs
  rw [← hb1, ← hb0]
  have HB0 := Aside0.mk (show w.heap.size ≤ W0.heap.size by omega)
  have hTo := fun W (hb : Below W0.heap.size W0 W) => laws_toIntS.calls k3 A cap l l W (Kd.C_below hC (below_chain hbW hb)) hcap h3
  have HBW := Aside0.mk hbW
  clear hb0 hb1 hz0
  clear hC h3 hcap hbW
  have HK0 := Aside0.mk hk
  have HS0 := Aside0.mk hs
  go_cut [7, 8, 9] (fun s7 s8 s9 wx => ∃ (A0 : Option Addr) (c0 B : Nat), s7 = .slice A0 T.length c0 ∧ s8 = .pointer (some ⟨B, 0, none⟩) ∧ s9 = .bool ok ∧ T.length ≤ c0 ∧ Kd.C (Kd.int .i64) wx A0 T.length T ∧ Bx wx B g ∧ Below W0.heap.size W0 wx)
  case first =>
    obtain ⟨p0, p1, p2, p3⟩ := hk
    obtain ⟨p4, p5, p6, p7⟩ := hs
    go_region_held3 (fun w' => w'.cell? ⟨b0, 0, none⟩ = some (.int .i64 (k 0)) ∧ w'.cell? ⟨b0, 1, none⟩ = some (.int .i64 (k 1)) ∧ w'.cell? ⟨b0, 2, none⟩ = some (.int .i64 (k 2)) ∧ w'.cell? ⟨b0, 3, none⟩ = some (.int .i64 (k 3)) ∧ w'.cell? ⟨b1, 0, none⟩ = some (.int .i64 (s 0)) ∧ w'.cell? ⟨b1, 1, none⟩ = some (.int .i64 (s 1)) ∧ w'.cell? ⟨b1, 2, none⟩ = some (.int .i64 (s 2)) ∧ w'.cell? ⟨b1, 3, none⟩ = some (.int .i64 (s 3)) ∧ Below W0.heap.size W0 w')
      (first | (go_split_ands; (repeat' (with_reducible apply And.intro)); all_goals (first | (first | (with_reducible assumption) | (simp; done) | (with_reducible refine keep_alloc _ ?_; with_reducible assumption) | (with_reducible refine keep_drew ?_; with_reducible assumption) | (with_reducible refine keep_alloc _ (keep_drew ?_); with_reducible assumption) | (with_reducible refine keep_drew (keep_alloc _ ?_); with_reducible assumption) | (with_reducible refine keep_alloc _ (keep_alloc _ ?_); with_reducible assumption) | (with_reducible refine keep_alloc _ (keep_alloc _ (keep_alloc _ ?_)); with_reducible assumption) | (simp [*]; done)) | ((with_reducible refine keep_below hb ?_); (first | (with_reducible assumption) | (simp; done) | (with_reducible refine keep_alloc _ ?_; with_reducible assumption) | (with_reducible refine keep_drew ?_; with_reducible assumption) | (with_reducible refine keep_alloc _ (keep_drew ?_); with_reducible assumption) | (with_reducible refine keep_drew (keep_alloc _ ?_); with_reducible assumption) | (with_reducible refine keep_alloc _ (keep_alloc _ ?_); with_reducible assumption) | (with_reducible refine keep_alloc _ (keep_alloc _ (keep_alloc _ ?_)); with_reducible assumption) | (simp [*]; done))) | ((repeat (first | (with_reducible assumption) | (refine cell_far ?_ (by omega)) | (with_reducible refine keep_alloc _ ?_))); done) | ((repeat first | (with_reducible assumption) | (with_reducible exact Below.refl _ _) | ((with_reducible refine bl_alloc _ ?_ ?_); focus (first | (simp; done) | (simp; omega) | omega)) | ((with_reducible refine bl_set _ ?_ ?_); focus (first | (simp; done) | (simp; omega) | omega)) | (with_reducible refine Below.drew ?_) | (with_reducible refine bl_drewN _ ?_)); done) | ((with_reducible refine below_chain ?_ hb); ((repeat first | (with_reducible assumption) | (with_reducible exact Below.refl _ _) | ((with_reducible refine bl_alloc _ ?_ ?_); focus (first | (simp; done) | (simp; omega) | omega)) | ((with_reducible refine bl_set _ ?_ ?_); focus (first | (simp; done) | (simp; omega) | omega)) | (with_reducible refine Below.drew ?_) | (with_reducible refine bl_drewN _ ?_)); done)) | ((repeat (first | (with_reducible assumption) | (refine bl_set _ (by (first | omega | (simp; omega))) ?_) | (with_reducible refine bl_alloc _ (by (first | omega | (simp; omega))) ?_))); done))))
      (first | (go_at_call 8; refine (toKit_any k _).mono ?_; rintro e wk ⟨rfl, hb⟩; have nk := Nx.mk hb; have hzwk := hb.size; (try simp at hzwk)) | (go_at_call 9; refine (toIntA4_any s _).mono ?_; rintro e wa ⟨rfl, hb⟩; have na := Nx.mk hb; have hzwa := hb.size; (try simp at hzwa)) | (go_at_call 10; refine (hTo _ (by go_split_ands; ((repeat first | (with_reducible assumption) | (with_reducible exact Below.refl _ _) | ((with_reducible refine bl_alloc _ ?_ ?_); focus (first | (simp; done) | (simp; omega) | omega)) | ((with_reducible refine bl_set _ ?_ ?_); focus (first | (simp; done) | (simp; omega) | omega)) | (with_reducible refine Below.drew ?_) | (with_reducible refine bl_drewN _ ?_)); done))).mono ?_; rintro e wt ⟨v0, rfl, hR0, hb⟩; have nt := Nx.mk hb; have hzwt := hb.size; (try simp at hzwt); obtain ⟨A0, c0, rfl, hc0, hC0⟩ := Kd.R_reads hR0) | (go_at_call 7; refine (hSp A0 c0 _ (by first | exact hC0 | exact Kd.C_below hC0 (by repeat (first | exact Below.refl _ _ | apply below_alloc))) hc0).mono ?_; rintro e wr ⟨v1, rfl, hR1, hb⟩; have nr := Nx.mk hb; have hzwr := hb.size; (try simp at hzwr); obtain ⟨n1, he, hR1⟩ := R_at hR1; (try simp at he); obtain ⟨A1, c1, rfl, hc1, hC1⟩ := Kd.R_reads hR1; go_split_ands; have q0 : wr.cell? ⟨b0, 0, none⟩ = some (.int .i64 (k 0)) := keep_below hb (by (first | (with_reducible assumption) | (simp; done) | (with_reducible refine keep_alloc _ ?_; with_reducible assumption) | (with_reducible refine keep_drew ?_; with_reducible assumption) | (with_reducible refine keep_alloc _ (keep_drew ?_); with_reducible assumption) | (with_reducible refine keep_drew (keep_alloc _ ?_); with_reducible assumption) | (with_reducible refine keep_alloc _ (keep_alloc _ ?_); with_reducible assumption) | (with_reducible refine keep_alloc _ (keep_alloc _ (keep_alloc _ ?_)); with_reducible assumption) | (simp [*]; done))); have q1 : wr.cell? ⟨b0, 1, none⟩ = some (.int .i64 (k 1)) := keep_below hb (by (first | (with_reducible assumption) | (simp; done) | (with_reducible refine keep_alloc _ ?_; with_reducible assumption) | (with_reducible refine keep_drew ?_; with_reducible assumption) | (with_reducible refine keep_alloc _ (keep_drew ?_); with_reducible assumption) | (with_reducible refine keep_drew (keep_alloc _ ?_); with_reducible assumption) | (with_reducible refine keep_alloc _ (keep_alloc _ ?_); with_reducible assumption) | (with_reducible refine keep_alloc _ (keep_alloc _ (keep_alloc _ ?_)); with_reducible assumption) | (simp [*]; done))); have q2 : wr.cell? ⟨b0, 2, none⟩ = some (.int .i64 (k 2)) := keep_below hb (by (first | (with_reducible assumption) | (simp; done) | (with_reducible refine keep_alloc _ ?_; with_reducible assumption) | (with_reducible refine keep_drew ?_; with_reducible assumption) | (with_reducible refine keep_alloc _ (keep_drew ?_); with_reducible assumption) | (with_reducible refine keep_drew (keep_alloc _ ?_); with_reducible assumption) | (with_reducible refine keep_alloc _ (keep_alloc _ ?_); with_reducible assumption) | (with_reducible refine keep_alloc _ (keep_alloc _ (keep_alloc _ ?_)); with_reducible assumption) | (simp [*]; done))); have q3 : wr.cell? ⟨b0, 3, none⟩ = some (.int .i64 (k 3)) := keep_below hb (by (first | (with_reducible assumption) | (simp; done) | (with_reducible refine keep_alloc _ ?_; with_reducible assumption) | (with_reducible refine keep_drew ?_; with_reducible assumption) | (with_reducible refine keep_alloc _ (keep_drew ?_); with_reducible assumption) | (with_reducible refine keep_drew (keep_alloc _ ?_); with_reducible assumption) | (with_reducible refine keep_alloc _ (keep_alloc _ ?_); with_reducible assumption) | (with_reducible refine keep_alloc _ (keep_alloc _ (keep_alloc _ ?_)); with_reducible assumption) | (simp [*]; done))); have q4 : wr.cell? ⟨b1, 0, none⟩ = some (.int .i64 (s 0)) := keep_below hb (by (first | (with_reducible assumption) | (simp; done) | (with_reducible refine keep_alloc _ ?_; with_reducible assumption) | (with_reducible refine keep_drew ?_; with_reducible assumption) | (with_reducible refine keep_alloc _ (keep_drew ?_); with_reducible assumption) | (with_reducible refine keep_drew (keep_alloc _ ?_); with_reducible assumption) | (with_reducible refine keep_alloc _ (keep_alloc _ ?_); with_reducible assumption) | (with_reducible refine keep_alloc _ (keep_alloc _ (keep_alloc _ ?_)); with_reducible assumption) | (simp [*]; done))); have q5 : wr.cell? ⟨b1, 1, none⟩ = some (.int .i64 (s 1)) := keep_below hb (by (first | (with_reducible assumption) | (simp; done) | (with_reducible refine keep_alloc _ ?_; with_reducible assumption) | (with_reducible refine keep_drew ?_; with_reducible assumption) | (with_reducible refine keep_alloc _ (keep_drew ?_); with_reducible assumption) | (with_reducible refine keep_drew (keep_alloc _ ?_); with_reducible assumption) | (with_reducible refine keep_alloc _ (keep_alloc _ ?_); with_reducible assumption) | (with_reducible refine keep_alloc _ (keep_alloc _ (keep_alloc _ ?_)); with_reducible assumption) | (simp [*]; done))); have q6 : wr.cell? ⟨b1, 2, none⟩ = some (.int .i64 (s 2)) := keep_below hb (by (first | (with_reducible assumption) | (simp; done) | (with_reducible refine keep_alloc _ ?_; with_reducible assumption) | (with_reducible refine keep_drew ?_; with_reducible assumption) | (with_reducible refine keep_alloc _ (keep_drew ?_); with_reducible assumption) | (with_reducible refine keep_drew (keep_alloc _ ?_); with_reducible assumption) | (with_reducible refine keep_alloc _ (keep_alloc _ ?_); with_reducible assumption) | (with_reducible refine keep_alloc _ (keep_alloc _ (keep_alloc _ ?_)); with_reducible assumption) | (simp [*]; done))); have q7 : wr.cell? ⟨b1, 3, none⟩ = some (.int .i64 (s 3)) := keep_below hb (by (first | (with_reducible assumption) | (simp; done) | (with_reducible refine keep_alloc _ ?_; with_reducible assumption) | (with_reducible refine keep_drew ?_; with_reducible assumption) | (with_reducible refine keep_alloc _ (keep_drew ?_); with_reducible assumption) | (with_reducible refine keep_drew (keep_alloc _ ?_); with_reducible assumption) | (with_reducible refine keep_alloc _ (keep_alloc _ ?_); with_reducible assumption) | (with_reducible refine keep_alloc _ (keep_alloc _ (keep_alloc _ ?_)); with_reducible assumption) | (simp [*]; done))); have qb : Below W0.heap.size W0 wr := below_chain (by ((repeat first | (with_reducible assumption) | (with_reducible exact Below.refl _ _) | ((with_reducible refine bl_alloc _ ?_ ?_); focus (first | (simp; done) | (simp; omega) | omega)) | ((with_reducible refine bl_set _ ?_ ?_); focus (first | (simp; done) | (simp; omega) | omega)) | (with_reducible refine Below.drew ?_) | (with_reducible refine bl_drewN _ ?_)); done)) hb; (try have X1 := nr.blk (heap_alloc_new wt _)); (try have X2 := nr.blk (nt.blk (heap_alloc_new wa _))); (try have X3 := nr.blk (nt.blk (na.blk (heap_alloc_new wk _)))); (try have X4 := nr.blk (nt.blk (na.blk (nk.blk (heap_alloc_new _ _))))); (try have zX10 := (blk_cell X1 0).trans rfl); (try have yX10 := blk_frozen X1 0); (try have zX11 := (blk_cell X1 1).trans rfl); (try have yX11 := blk_frozen X1 1); (try have zX12 := (blk_cell X1 2).trans rfl); (try have yX12 := blk_frozen X1 2); (try have zX13 := (blk_cell X1 3).trans rfl); (try have yX13 := blk_frozen X1 3); (try have zX20 := (blk_cell X2 0).trans rfl); (try have yX20 := blk_frozen X2 0); (try have zX21 := (blk_cell X2 1).trans rfl); (try have yX21 := blk_frozen X2 1); (try have zX22 := (blk_cell X2 2).trans rfl); (try have yX22 := blk_frozen X2 2); (try have zX23 := (blk_cell X2 3).trans rfl); (try have yX23 := blk_frozen X2 3); (try have zX30 := (blk_cell X3 0).trans rfl); (try have yX30 := blk_frozen X3 0); (try have zX31 := (blk_cell X3 1).trans rfl); (try have yX31 := blk_frozen X3 1); (try have zX32 := (blk_cell X3 2).trans rfl); (try have yX32 := blk_frozen X3 2); (try have zX33 := (blk_cell X3 3).trans rfl); (try have yX33 := blk_frozen X3 3); (try have zX40 := (blk_cell X4 0).trans rfl); (try have yX40 := blk_frozen X4 0); (try have zX41 := (blk_cell X4 1).trans rfl); (try have yX41 := blk_frozen X4 1); (try have zX42 := (blk_cell X4 2).trans rfl); (try have yX42 := blk_frozen X4 2); (try have zX43 := (blk_cell X4 3).trans rfl); (try have yX43 := blk_frozen X4 3)))
    all_goals (go_wp2_with fail; go_meet)
    all_goals go_split_ands
    all_goals
      refine ⟨A1, c1, _, rfl, rfl, rfl, hc1, ?_, ?_, ?_⟩
      · first
        | with_reducible exact Kd.C_below hC1 (below_alloc (Below.refl _ _) _)
        | exact (Kd.R_reads' (set4_R (g := g) hR1 (by intro kk hkk; have a := Kd.R_lt hR1 kk hkk; have b := Kd.R_base hR1 kk hkk; omega))).2.2
      · first | with_reducible exact box_new | exact box4 X1 | exact box4 X2 | exact box4 X3 | exact box4 X4
      · assumption

  case rest =>
    obtain ⟨w3, rfl⟩ : ∃ w3, w3 = wc := ⟨_, rfl⟩
    obtain ⟨A0, c0, B, rfl, rfl, rfl, hc0, hC0, hB, hbx⟩ := hcut
    have HG0 := Aside0.mk hc0
    have HC0 := Aside0.mk hC0
    have HB := Aside0.mk hB
    have H3 := Aside0.mk hbx
    clear hc0 hC0 hB hbx hk hs
    go_wp2_with fail
    refine (hTo _ H3.out).mono ?_
    rintro e w5 ⟨vx, rfl, hRx, hb⟩
    obtain ⟨Ax, cx, rfl, hcx, hCx⟩ := Kd.R_reads hRx
    have HGx := Aside0.mk hcx
    have HCx := Aside0.mk hCx
    have HRx := Aside0.mk hRx
    have H5 := Aside0.mk hb
    have HK5 := Aside0.mk ((HK0.out.below H3.out).below hb)
    have HS5 := Aside0.mk ((HS0.out.below H3.out).below hb)
    clear hcx hCx hRx hb
    go_upto_region 5 with fail
    go_cut [11, 12, 13] (fun s11 s12 s13 wy => ∃ (A1 : Option Addr) (c1 B1 n1 : Nat), s11 = .slice A1 T.length c1 ∧ s12 = .pointer (some ⟨B1, 0, none⟩) ∧ s13 = .bool ok ∧ T.length ≤ c1 ∧ w5.heap.size ≤ n1 ∧ n1 ≤ wy.heap.size ∧ Kd.R (Kd.int .i64) 3 wy n1 (fun _ => True) (.slice A1 T.length c1) T ∧ (∀ j, (Value.slice A1 T.length c1).ownBlock = some j → j ≠ B1) ∧ w5.heap.size ≤ B1 ∧ Bx wy B1 g ∧ Below w5.heap.size w5 wy)
    case first =>
      obtain ⟨p0, p1, p2, p3⟩ := HK5.out
      obtain ⟨p4, p5, p6, p7⟩ := HS5.out
      have hl0 := HK5.out.lt
      have hl1 := HS5.out.lt
      go_region_held3 (fun w' => w'.cell? ⟨b0, 0, none⟩ = some (.int .i64 (k 0)) ∧ w'.cell? ⟨b0, 1, none⟩ = some (.int .i64 (k 1)) ∧ w'.cell? ⟨b0, 2, none⟩ = some (.int .i64 (k 2)) ∧ w'.cell? ⟨b0, 3, none⟩ = some (.int .i64 (k 3)) ∧ w'.cell? ⟨b1, 0, none⟩ = some (.int .i64 (s 0)) ∧ w'.cell? ⟨b1, 1, none⟩ = some (.int .i64 (s 1)) ∧ w'.cell? ⟨b1, 2, none⟩ = some (.int .i64 (s 2)) ∧ w'.cell? ⟨b1, 3, none⟩ = some (.int .i64 (s 3)) ∧ Below w5.heap.size w5 w')
        (first | (go_split_ands; (repeat' (with_reducible apply And.intro)); all_goals (first | (first | (with_reducible assumption) | (simp; done) | (with_reducible refine keep_alloc _ ?_; with_reducible assumption) | (with_reducible refine keep_drew ?_; with_reducible assumption) | (with_reducible refine keep_alloc _ (keep_drew ?_); with_reducible assumption) | (with_reducible refine keep_drew (keep_alloc _ ?_); with_reducible assumption) | (with_reducible refine keep_alloc _ (keep_alloc _ ?_); with_reducible assumption) | (with_reducible refine keep_alloc _ (keep_alloc _ (keep_alloc _ ?_)); with_reducible assumption) | (simp [*]; done)) | ((with_reducible refine keep_below hb ?_); (first | (with_reducible assumption) | (simp; done) | (with_reducible refine keep_alloc _ ?_; with_reducible assumption) | (with_reducible refine keep_drew ?_; with_reducible assumption) | (with_reducible refine keep_alloc _ (keep_drew ?_); with_reducible assumption) | (with_reducible refine keep_drew (keep_alloc _ ?_); with_reducible assumption) | (with_reducible refine keep_alloc _ (keep_alloc _ ?_); with_reducible assumption) | (with_reducible refine keep_alloc _ (keep_alloc _ (keep_alloc _ ?_)); with_reducible assumption) | (simp [*]; done))) | ((repeat (first | (with_reducible assumption) | (refine cell_far ?_ (by omega)) | (with_reducible refine keep_alloc _ ?_))); done) | ((repeat first | (with_reducible assumption) | (with_reducible exact Below.refl _ _) | ((with_reducible refine bl_alloc _ ?_ ?_); focus (first | (simp; done) | (simp; omega) | omega)) | ((with_reducible refine bl_set _ ?_ ?_); focus (first | (simp; done) | (simp; omega) | omega)) | (with_reducible refine Below.drew ?_) | (with_reducible refine bl_drewN _ ?_)); done) | ((with_reducible refine below_chain ?_ hb); ((repeat first | (with_reducible assumption) | (with_reducible exact Below.refl _ _) | ((with_reducible refine bl_alloc _ ?_ ?_); focus (first | (simp; done) | (simp; omega) | omega)) | ((with_reducible refine bl_set _ ?_ ?_); focus (first | (simp; done) | (simp; omega) | omega)) | (with_reducible refine Below.drew ?_) | (with_reducible refine bl_drewN _ ?_)); done)) | ((repeat (first | (with_reducible assumption) | (refine bl_set _ (by (first | omega | (simp; omega))) ?_) | (with_reducible refine bl_alloc _ (by (first | omega | (simp; omega))) ?_))); done))))
        (first | (go_at_call 8; refine (toKit_any k _).mono ?_; rintro e wk ⟨rfl, hb⟩; have nk := Nx.mk hb; have hzwk := hb.size; (try simp at hzwk)) | (go_at_call 9; refine (toIntA4_any s _).mono ?_; rintro e wa ⟨rfl, hb⟩; have na := Nx.mk hb; have hzwa := hb.size; (try simp at hzwa)) | (go_at_call 11; refine (hIm Ax cx _ (Kd.C_below HCx.out (by go_split_ands; ((repeat first | (with_reducible assumption) | (with_reducible exact Below.refl _ _) | ((with_reducible refine bl_alloc _ ?_ ?_); focus (first | (simp; done) | (simp; omega) | omega)) | ((with_reducible refine bl_set _ ?_ ?_); focus (first | (simp; done) | (simp; omega) | omega)) | (with_reducible refine Below.drew ?_) | (with_reducible refine bl_drewN _ ?_)); done))) HGx.out).mono ?_; rintro e wr ⟨v1, rfl, hR1, hb⟩; have nr := Nx.mk hb; have hzwr := hb.size; (try simp at hzwr); obtain ⟨n1, he, hR1⟩ := R_at hR1; (try simp at he); obtain ⟨A1, c1, rfl, hc1, hC1⟩ := Kd.R_reads hR1; go_split_ands; have q0 : wr.cell? ⟨b0, 0, none⟩ = some (.int .i64 (k 0)) := keep_below hb (by (first | (with_reducible assumption) | (simp; done) | (with_reducible refine keep_alloc _ ?_; with_reducible assumption) | (with_reducible refine keep_drew ?_; with_reducible assumption) | (with_reducible refine keep_alloc _ (keep_drew ?_); with_reducible assumption) | (with_reducible refine keep_drew (keep_alloc _ ?_); with_reducible assumption) | (with_reducible refine keep_alloc _ (keep_alloc _ ?_); with_reducible assumption) | (with_reducible refine keep_alloc _ (keep_alloc _ (keep_alloc _ ?_)); with_reducible assumption) | (simp [*]; done))); have q1 : wr.cell? ⟨b0, 1, none⟩ = some (.int .i64 (k 1)) := keep_below hb (by (first | (with_reducible assumption) | (simp; done) | (with_reducible refine keep_alloc _ ?_; with_reducible assumption) | (with_reducible refine keep_drew ?_; with_reducible assumption) | (with_reducible refine keep_alloc _ (keep_drew ?_); with_reducible assumption) | (with_reducible refine keep_drew (keep_alloc _ ?_); with_reducible assumption) | (with_reducible refine keep_alloc _ (keep_alloc _ ?_); with_reducible assumption) | (with_reducible refine keep_alloc _ (keep_alloc _ (keep_alloc _ ?_)); with_reducible assumption) | (simp [*]; done))); have q2 : wr.cell? ⟨b0, 2, none⟩ = some (.int .i64 (k 2)) := keep_below hb (by (first | (with_reducible assumption) | (simp; done) | (with_reducible refine keep_alloc _ ?_; with_reducible assumption) | (with_reducible refine keep_drew ?_; with_reducible assumption) | (with_reducible refine keep_alloc _ (keep_drew ?_); with_reducible assumption) | (with_reducible refine keep_drew (keep_alloc _ ?_); with_reducible assumption) | (with_reducible refine keep_alloc _ (keep_alloc _ ?_); with_reducible assumption) | (with_reducible refine keep_alloc _ (keep_alloc _ (keep_alloc _ ?_)); with_reducible assumption) | (simp [*]; done))); have q3 : wr.cell? ⟨b0, 3, none⟩ = some (.int .i64 (k 3)) := keep_below hb (by (first | (with_reducible assumption) | (simp; done) | (with_reducible refine keep_alloc _ ?_; with_reducible assumption) | (with_reducible refine keep_drew ?_; with_reducible assumption) | (with_reducible refine keep_alloc _ (keep_drew ?_); with_reducible assumption) | (with_reducible refine keep_drew (keep_alloc _ ?_); with_reducible assumption) | (with_reducible refine keep_alloc _ (keep_alloc _ ?_); with_reducible assumption) | (with_reducible refine keep_alloc _ (keep_alloc _ (keep_alloc _ ?_)); with_reducible assumption) | (simp [*]; done))); have q4 : wr.cell? ⟨b1, 0, none⟩ = some (.int .i64 (s 0)) := keep_below hb (by (first | (with_reducible assumption) | (simp; done) | (with_reducible refine keep_alloc _ ?_; with_reducible assumption) | (with_reducible refine keep_drew ?_; with_reducible assumption) | (with_reducible refine keep_alloc _ (keep_drew ?_); with_reducible assumption) | (with_reducible refine keep_drew (keep_alloc _ ?_); with_reducible assumption) | (with_reducible refine keep_alloc _ (keep_alloc _ ?_); with_reducible assumption) | (with_reducible refine keep_alloc _ (keep_alloc _ (keep_alloc _ ?_)); with_reducible assumption) | (simp [*]; done))); have q5 : wr.cell? ⟨b1, 1, none⟩ = some (.int .i64 (s 1)) := keep_below hb (by (first | (with_reducible assumption) | (simp; done) | (with_reducible refine keep_alloc _ ?_; with_reducible assumption) | (with_reducible refine keep_drew ?_; with_reducible assumption) | (with_reducible refine keep_alloc _ (keep_drew ?_); with_reducible assumption) | (with_reducible refine keep_drew (keep_alloc _ ?_); with_reducible assumption) | (with_reducible refine keep_alloc _ (keep_alloc _ ?_); with_reducible assumption) | (with_reducible refine keep_alloc _ (keep_alloc _ (keep_alloc _ ?_)); with_reducible assumption) | (simp [*]; done))); have q6 : wr.cell? ⟨b1, 2, none⟩ = some (.int .i64 (s 2)) := keep_below hb (by (first | (with_reducible assumption) | (simp; done) | (with_reducible refine keep_alloc _ ?_; with_reducible assumption) | (with_reducible refine keep_drew ?_; with_reducible assumption) | (with_reducible refine keep_alloc _ (keep_drew ?_); with_reducible assumption) | (with_reducible refine keep_drew (keep_alloc _ ?_); with_reducible assumption) | (with_reducible refine keep_alloc _ (keep_alloc _ ?_); with_reducible assumption) | (with_reducible refine keep_alloc _ (keep_alloc _ (keep_alloc _ ?_)); with_reducible assumption) | (simp [*]; done))); have q7 : wr.cell? ⟨b1, 3, none⟩ = some (.int .i64 (s 3)) := keep_below hb (by (first | (with_reducible assumption) | (simp; done) | (with_reducible refine keep_alloc _ ?_; with_reducible assumption) | (with_reducible refine keep_drew ?_; with_reducible assumption) | (with_reducible refine keep_alloc _ (keep_drew ?_); with_reducible assumption) | (with_reducible refine keep_drew (keep_alloc _ ?_); with_reducible assumption) | (with_reducible refine keep_alloc _ (keep_alloc _ ?_); with_reducible assumption) | (with_reducible refine keep_alloc _ (keep_alloc _ (keep_alloc _ ?_)); with_reducible assumption) | (simp [*]; done))); have qb : Below w5.heap.size w5 wr := below_chain (by ((repeat first | (with_reducible assumption) | (with_reducible exact Below.refl _ _) | ((with_reducible refine bl_alloc _ ?_ ?_); focus (first | (simp; done) | (simp; omega) | omega)) | ((with_reducible refine bl_set _ ?_ ?_); focus (first | (simp; done) | (simp; omega) | omega)) | (with_reducible refine Below.drew ?_) | (with_reducible refine bl_drewN _ ?_)); done)) hb; (try have X1 := nr.blk (heap_alloc_new wa _)); (try have X2 := nr.blk (na.blk (heap_alloc_new wk _))); (try have X3 := nr.blk (na.blk (nk.blk (heap_alloc_new _ _)))); (try have zX10 := (blk_cell X1 0).trans rfl); (try have yX10 := blk_frozen X1 0); (try have zX11 := (blk_cell X1 1).trans rfl); (try have yX11 := blk_frozen X1 1); (try have zX12 := (blk_cell X1 2).trans rfl); (try have yX12 := blk_frozen X1 2); (try have zX13 := (blk_cell X1 3).trans rfl); (try have yX13 := blk_frozen X1 3); (try have zX20 := (blk_cell X2 0).trans rfl); (try have yX20 := blk_frozen X2 0); (try have zX21 := (blk_cell X2 1).trans rfl); (try have yX21 := blk_frozen X2 1); (try have zX22 := (blk_cell X2 2).trans rfl); (try have yX22 := blk_frozen X2 2); (try have zX23 := (blk_cell X2 3).trans rfl); (try have yX23 := blk_frozen X2 3); (try have zX30 := (blk_cell X3 0).trans rfl); (try have yX30 := blk_frozen X3 0); (try have zX31 := (blk_cell X3 1).trans rfl); (try have yX31 := blk_frozen X3 1); (try have zX32 := (blk_cell X3 2).trans rfl); (try have yX32 := blk_frozen X3 2); (try have zX33 := (blk_cell X3 3).trans rfl); (try have yX33 := blk_frozen X3 3); (try have zX40 := (blk_cell X4 0).trans rfl); (try have yX40 := blk_frozen X4 0); (try have zX41 := (blk_cell X4 1).trans rfl); (try have yX41 := blk_frozen X4 1); (try have zX42 := (blk_cell X4 2).trans rfl); (try have yX42 := blk_frozen X4 2); (try have zX43 := (blk_cell X4 3).trans rfl); (try have yX43 := blk_frozen X4 3)))
      all_goals (go_wp2_with fail; go_meet)
      all_goals go_split_ands
      all_goals
        refine ⟨A1, c1, _, n1, rfl, rfl, rfl, hc1, by omega, ?_, ?_, ?_, ?_, ?_, ?_⟩
        · first | (with_reducible exact Nat.le_trans (by omega) (Nat.le_of_lt (Nat.lt_of_lt_of_le (Nat.lt_succ_self _) (Nat.le_of_eq (by simp).symm)))) | (simp; omega) | exact Nat.le_trans (by omega) (Nat.le_of_eq (set4_size wr _ g).symm)
        · first | with_reducible exact Kd.R_alloc hR1 _ | exact set4_R (g := g) hR1 (by intro kk hkk; have a := Kd.R_lt hR1 kk hkk; have b := Kd.R_base hR1 kk hkk; omega)
        · intro kk hkk; have a := Kd.R_lt hR1 kk hkk; have b := Kd.R_base hR1 kk hkk; omega
        · first | omega | (simp; omega)
        · first | with_reducible exact box_new | exact box4 X1 | exact box4 X2 | exact box4 X3 | exact box4 X4
        · assumption

    case rest =>
      obtain ⟨w8, rfl⟩ : ∃ w8, w8 = wc := ⟨_, rfl⟩
      obtain ⟨A1, c1, B1, n1, rfl, rfl, rfl, hc1, hn1, hn2, hR1, hne, hB1, hbx1, hb5⟩ := hcut
      have HG1 := Aside0.mk hc1
      have HN1 := Aside0.mk hn1
      have HN2 := Aside0.mk hn2
      have HR1 := Aside0.mk hR1
      have HNE := Aside0.mk hne
      have HL1 := Aside0.mk hB1
      have HBX1 := Aside0.mk hbx1
      have H8 := Aside0.mk hb5
      have HBX0 := Aside0.mk ((HB.out.below H5.out).below H8.out)
      have HC08 := Aside0.mk (Kd.C_below (Kd.C_below HC0.out H5.out) H8.out)
      clear hc1 hn1 hn2 hR1 hne hB1 hbx1 hb5
      have HE := hET A1 A0 c1 c0 w8 (Kd.R_reads' HR1.out).2.2 HG1.out HC08.out HG0.out
      go_wp2_with fail
      refine HE.mono ?_
      rintro e w9 ⟨rfl, hd⟩
      have H9 := Aside0.mk (Drawn0.below hd)
      clear hd HE
      obtain ⟨p0, p1, p2, p3⟩ := HBX1.out.below H9.out
      obtain ⟨p4, p5, p6, p7⟩ := HBX0.out.below H9.out
      go_wp2_with fail
      refine (eqIntA4_same g _).mono ?_
      rintro e w10 ⟨rfl, hb⟩
      have H10 := Aside0.mk (below_chain H9.out hb)
      clear hb H9 p0 p1 p2 p3 p4 p5 p6 p7
      go_wp2_with fail
      have HW10 := Aside0.mk (below_chain (below_chain (below_chain H3.out H5.out) H8.out) H10.out)
      refine (hTo _ HW10.out).mono ?_
      rintro e w11 ⟨v2, rfl, hR2, hb⟩
      obtain ⟨A2, c2, rfl, hc2, hC2⟩ := Kd.R_reads hR2
      have H11 := Aside0.mk (below_chain H10.out hb)
      have HE := hEL Ax A2 cx c2 w11 (Kd.C_below HCx.out (below_chain H8.out H11.out)) HGx.out hC2 hc2
      clear hc2 hC2 hb H10 HW10 hR2
      go_wp2_with fail
      refine HE.mono ?_
      rintro e w12 ⟨rfl, hd⟩
      have H12 := Aside0.mk (below_chain H11.out (Drawn0.below hd))
      clear hd HE H11
      have HM := mark_any 1 l w3.heap.size (fun _ => True) (.slice Ax l.length cx) w12 (by omega) (by have := HL.out; omega) (below_chain (below_chain H5.out H8.out) H12.out).size (Kd.R_below HRx.out (below_chain H8.out H12.out))
      have nL : decide (1 + (l.length : Int) < 0) = false := decide_eq_false (by omega)
      go_wp2_with fail
      refine HM.mono ?_
      rintro e w13 ⟨rfl, _, hb, hsame⟩
      have H13 := Aside0.mk (show Below w3.heap.size w3 w13 from (below_chain (below_chain H5.out H8.out) H12.out).trans hb)
      have hxl := Kd.R_lt HRx.out
      have HR13 := Aside0.mk (show Kd.R (Kd.int .i64) 3 w13 n1 (fun _ => True) (.slice A1 T.length c1) T from
        Kd.R_mono (Kd.R_step (Kd.R_reok (ok := fun q => (Value.slice Ax l.length cx).ownBlock ≠ some q) rfl (Kd.R_below HR1.out H12.out) (fun q hq hx => by
          have a := Kd.R_base HR1.out q hq
          have b := hxl q hx
          have := HN1.out
          omega)) (fun q hq _ => hsame q hq)) (fun _ _ => trivial))
      have HBX13 := Aside0.mk ((HBX1.out.below H12.out).same (hsame B1 (fun hx => by
          have b := hxl B1 hx
          have := HL1.out
          omega)))
      have HBY13 := Aside0.mk (HB.out.below H13.out)
      have HC013 := Aside0.mk (Kd.C_below HC0.out H13.out)
      have HN13 := Aside0.mk (show n1 ≤ w13.heap.size from Nat.le_trans HN2.out (Nat.le_trans H12.out.size hb.size))
      clear HM hb hsame hxl HR1 HBX1 HBX0 HC08 H12 HN2 HRx HCx HGx
      have HE := hET A1 A0 c1 c0 w13 (Kd.R_reads' HR13.out).2.2 HG1.out HC013.out HG0.out
      go_wp2_with fail
      refine HE.mono ?_
      rintro e w14 ⟨rfl, hd⟩
      have H14 := Aside0.mk (Drawn0.below hd)
      clear hd HE
      obtain ⟨p0, p1, p2, p3⟩ := HBX13.out.below H14.out
      obtain ⟨p4, p5, p6, p7⟩ := HBY13.out.below H14.out
      go_wp2_with fail
      refine (eqIntA4_same g _).mono ?_
      rintro e w15 ⟨rfl, hb⟩
      have H15 := Aside0.mk (below_chain H14.out hb)
      clear hb H14 p0 p1 p2 p3 p4 p5 p6 p7
      have HM := mark_any 1 T n1 (fun _ => True) (.slice A1 T.length c1) w15 (by omega) (by have := HT.out; omega) (Nat.le_trans HN13.out H15.out.size) (Kd.R_below HR13.out H15.out)
      have nT : decide (1 + (T.length : Int) < 0) = false := decide_eq_false (by omega)
      go_wp2_with fail
      refine HM.mono ?_
      rintro e w16 ⟨rfl, hR16, hb, _⟩
      have HR16 := Aside0.mk hR16
      have H16 := Aside0.mk (show Below w3.heap.size w3 w16 from (below_chain H13.out H15.out).trans (hb.mono (Nat.le_trans H5.out.size HN1.out)))
      clear HM hR16 hb HR13 HBX13 HBY13 HC013 HN13 H15 H13
      have HH := held_any T.length (by have := HT.out; omega) A1 c1 n1 _ w16 HR16.out
      go_wp2_with fail
      refine HH.mono ?_
      rintro e w17 ⟨rfl, hb⟩
      have HR17 := Aside0.mk (Kd.R_below HR16.out hb)
      have H17 := Aside0.mk (below_chain H16.out hb)
      clear HH HR16 hb H16
      have HW17 := Aside0.mk (below_chain H3.out H17.out)
      have HK17 := Aside0.mk (HK0.out.below HW17.out)
      have HS17 := Aside0.mk (HS0.out.below HW17.out)
      have HB17 := Aside0.mk (HB.out.below H17.out)
      have HC17 := Aside0.mk (Kd.C_below HC0.out H17.out)
      clear HB HC0 HK0 HS0 H5 H8 H17 HK5 HS5 HN1 HL1 HNE
      go_upto_region 22 with fail
      go_cut [17, 18, 19] (fun s17 s18 s19 wz => ∃ (A2 : Option Addr) (c2 B2 : Nat), s17 = .slice A2 T.length c2 ∧ s18 = .pointer (some ⟨B2, 0, none⟩) ∧ s19 = .bool ok ∧ T.length ≤ c2 ∧ Kd.C (Kd.int .i64) wz A2 T.length T ∧ Bx wz B2 g ∧ Below w17.heap.size w17 wz)
      case first =>
        obtain ⟨p0, p1, p2, p3⟩ := HK17.out
        obtain ⟨p4, p5, p6, p7⟩ := HS17.out
        have hl0 := HK17.out.lt
        have hl1 := HS17.out.lt
        go_region_held3 (fun w' => w'.cell? ⟨b0, 0, none⟩ = some (.int .i64 (k 0)) ∧ w'.cell? ⟨b0, 1, none⟩ = some (.int .i64 (k 1)) ∧ w'.cell? ⟨b0, 2, none⟩ = some (.int .i64 (k 2)) ∧ w'.cell? ⟨b0, 3, none⟩ = some (.int .i64 (k 3)) ∧ w'.cell? ⟨b1, 0, none⟩ = some (.int .i64 (s 0)) ∧ w'.cell? ⟨b1, 1, none⟩ = some (.int .i64 (s 1)) ∧ w'.cell? ⟨b1, 2, none⟩ = some (.int .i64 (s 2)) ∧ w'.cell? ⟨b1, 3, none⟩ = some (.int .i64 (s 3)) ∧ Below w17.heap.size w17 w')
          (first | (go_split_ands; (repeat' (with_reducible apply And.intro)); all_goals (first | (first | (with_reducible assumption) | (simp; done) | (with_reducible refine keep_alloc _ ?_; with_reducible assumption) | (with_reducible refine keep_drew ?_; with_reducible assumption) | (with_reducible refine keep_alloc _ (keep_drew ?_); with_reducible assumption) | (with_reducible refine keep_drew (keep_alloc _ ?_); with_reducible assumption) | (with_reducible refine keep_alloc _ (keep_alloc _ ?_); with_reducible assumption) | (with_reducible refine keep_alloc _ (keep_alloc _ (keep_alloc _ ?_)); with_reducible assumption) | (simp [*]; done)) | ((with_reducible refine keep_below hb ?_); (first | (with_reducible assumption) | (simp; done) | (with_reducible refine keep_alloc _ ?_; with_reducible assumption) | (with_reducible refine keep_drew ?_; with_reducible assumption) | (with_reducible refine keep_alloc _ (keep_drew ?_); with_reducible assumption) | (with_reducible refine keep_drew (keep_alloc _ ?_); with_reducible assumption) | (with_reducible refine keep_alloc _ (keep_alloc _ ?_); with_reducible assumption) | (with_reducible refine keep_alloc _ (keep_alloc _ (keep_alloc _ ?_)); with_reducible assumption) | (simp [*]; done))) | ((repeat (first | (with_reducible assumption) | (refine cell_far ?_ (by omega)) | (with_reducible refine keep_alloc _ ?_))); done) | ((repeat first | (with_reducible assumption) | (with_reducible exact Below.refl _ _) | ((with_reducible refine bl_alloc _ ?_ ?_); focus (first | (simp; done) | (simp; omega) | omega)) | ((with_reducible refine bl_set _ ?_ ?_); focus (first | (simp; done) | (simp; omega) | omega)) | (with_reducible refine Below.drew ?_) | (with_reducible refine bl_drewN _ ?_)); done) | ((with_reducible refine below_chain ?_ hb); ((repeat first | (with_reducible assumption) | (with_reducible exact Below.refl _ _) | ((with_reducible refine bl_alloc _ ?_ ?_); focus (first | (simp; done) | (simp; omega) | omega)) | ((with_reducible refine bl_set _ ?_ ?_); focus (first | (simp; done) | (simp; omega) | omega)) | (with_reducible refine Below.drew ?_) | (with_reducible refine bl_drewN _ ?_)); done)) | ((repeat (first | (with_reducible assumption) | (refine bl_set _ (by (first | omega | (simp; omega))) ?_) | (with_reducible refine bl_alloc _ (by (first | omega | (simp; omega))) ?_))); done))))
          (first | (go_at_call 8; refine (toKit_any k _).mono ?_; rintro e wk ⟨rfl, hb⟩; have nk := Nx.mk hb; have hzwk := hb.size; (try simp at hzwk)) | (go_at_call 9; refine (toIntA4_any s _).mono ?_; rintro e wa ⟨rfl, hb⟩; have na := Nx.mk hb; have hzwa := hb.size; (try simp at hzwa)) | (go_at_call 10; refine (hTo _ (below_chain HW17.out (by go_split_ands; ((repeat first | (with_reducible assumption) | (with_reducible exact Below.refl _ _) | ((with_reducible refine bl_alloc _ ?_ ?_); focus (first | (simp; done) | (simp; omega) | omega)) | ((with_reducible refine bl_set _ ?_ ?_); focus (first | (simp; done) | (simp; omega) | omega)) | (with_reducible refine Below.drew ?_) | (with_reducible refine bl_drewN _ ?_)); done)))).mono ?_; rintro e wt ⟨v0, rfl, hR0, hb⟩; have nt := Nx.mk hb; have hzwt := hb.size; (try simp at hzwt); obtain ⟨A8, c8, rfl, hc8, hC8⟩ := Kd.R_reads hR0) | (go_at_call 11; refine (hIm A8 c8 _ (by first | exact hC8 | exact Kd.C_below hC8 (by repeat (first | exact Below.refl _ _ | apply below_alloc))) hc8).mono ?_; rintro e wr ⟨v1, rfl, hR1, hb⟩; have nr := Nx.mk hb; have hzwr := hb.size; (try simp at hzwr); obtain ⟨n1, he, hR1⟩ := R_at hR1; (try simp at he); obtain ⟨A1, c1, rfl, hc1, hC1⟩ := Kd.R_reads hR1; go_split_ands; have q0 : wr.cell? ⟨b0, 0, none⟩ = some (.int .i64 (k 0)) := keep_below hb (by (first | (with_reducible assumption) | (simp; done) | (with_reducible refine keep_alloc _ ?_; with_reducible assumption) | (with_reducible refine keep_drew ?_; with_reducible assumption) | (with_reducible refine keep_alloc _ (keep_drew ?_); with_reducible assumption) | (with_reducible refine keep_drew (keep_alloc _ ?_); with_reducible assumption) | (with_reducible refine keep_alloc _ (keep_alloc _ ?_); with_reducible assumption) | (with_reducible refine keep_alloc _ (keep_alloc _ (keep_alloc _ ?_)); with_reducible assumption) | (simp [*]; done))); have q1 : wr.cell? ⟨b0, 1, none⟩ = some (.int .i64 (k 1)) := keep_below hb (by (first | (with_reducible assumption) | (simp; done) | (with_reducible refine keep_alloc _ ?_; with_reducible assumption) | (with_reducible refine keep_drew ?_; with_reducible assumption) | (with_reducible refine keep_alloc _ (keep_drew ?_); with_reducible assumption) | (with_reducible refine keep_drew (keep_alloc _ ?_); with_reducible assumption) | (with_reducible refine keep_alloc _ (keep_alloc _ ?_); with_reducible assumption) | (with_reducible refine keep_alloc _ (keep_alloc _ (keep_alloc _ ?_)); with_reducible assumption) | (simp [*]; done))); have q2 : wr.cell? ⟨b0, 2, none⟩ = some (.int .i64 (k 2)) := keep_below hb (by (first | (with_reducible assumption) | (simp; done) | (with_reducible refine keep_alloc _ ?_; with_reducible assumption) | (with_reducible refine keep_drew ?_; with_reducible assumption) | (with_reducible refine keep_alloc _ (keep_drew ?_); with_reducible assumption) | (with_reducible refine keep_drew (keep_alloc _ ?_); with_reducible assumption) | (with_reducible refine keep_alloc _ (keep_alloc _ ?_); with_reducible assumption) | (with_reducible refine keep_alloc _ (keep_alloc _ (keep_alloc _ ?_)); with_reducible assumption) | (simp [*]; done))); have q3 : wr.cell? ⟨b0, 3, none⟩ = some (.int .i64 (k 3)) := keep_below hb (by (first | (with_reducible assumption) | (simp; done) | (with_reducible refine keep_alloc _ ?_; with_reducible assumption) | (with_reducible refine keep_drew ?_; with_reducible assumption) | (with_reducible refine keep_alloc _ (keep_drew ?_); with_reducible assumption) | (with_reducible refine keep_drew (keep_alloc _ ?_); with_reducible assumption) | (with_reducible refine keep_alloc _ (keep_alloc _ ?_); with_reducible assumption) | (with_reducible refine keep_alloc _ (keep_alloc _ (keep_alloc _ ?_)); with_reducible assumption) | (simp [*]; done))); have q4 : wr.cell? ⟨b1, 0, none⟩ = some (.int .i64 (s 0)) := keep_below hb (by (first | (with_reducible assumption) | (simp; done) | (with_reducible refine keep_alloc _ ?_; with_reducible assumption) | (with_reducible refine keep_drew ?_; with_reducible assumption) | (with_reducible refine keep_alloc _ (keep_drew ?_); with_reducible assumption) | (with_reducible refine keep_drew (keep_alloc _ ?_); with_reducible assumption) | (with_reducible refine keep_alloc _ (keep_alloc _ ?_); with_reducible assumption) | (with_reducible refine keep_alloc _ (keep_alloc _ (keep_alloc _ ?_)); with_reducible assumption) | (simp [*]; done))); have q5 : wr.cell? ⟨b1, 1, none⟩ = some (.int .i64 (s 1)) := keep_below hb (by (first | (with_reducible assumption) | (simp; done) | (with_reducible refine keep_alloc _ ?_; with_reducible assumption) | (with_reducible refine keep_drew ?_; with_reducible assumption) | (with_reducible refine keep_alloc _ (keep_drew ?_); with_reducible assumption) | (with_reducible refine keep_drew (keep_alloc _ ?_); with_reducible assumption) | (with_reducible refine keep_alloc _ (keep_alloc _ ?_); with_reducible assumption) | (with_reducible refine keep_alloc _ (keep_alloc _ (keep_alloc _ ?_)); with_reducible assumption) | (simp [*]; done))); have q6 : wr.cell? ⟨b1, 2, none⟩ = some (.int .i64 (s 2)) := keep_below hb (by (first | (with_reducible assumption) | (simp; done) | (with_reducible refine keep_alloc _ ?_; with_reducible assumption) | (with_reducible refine keep_drew ?_; with_reducible assumption) | (with_reducible refine keep_alloc _ (keep_drew ?_); with_reducible assumption) | (with_reducible refine keep_drew (keep_alloc _ ?_); with_reducible assumption) | (with_reducible refine keep_alloc _ (keep_alloc _ ?_); with_reducible assumption) | (with_reducible refine keep_alloc _ (keep_alloc _ (keep_alloc _ ?_)); with_reducible assumption) | (simp [*]; done))); have q7 : wr.cell? ⟨b1, 3, none⟩ = some (.int .i64 (s 3)) := keep_below hb (by (first | (with_reducible assumption) | (simp; done) | (with_reducible refine keep_alloc _ ?_; with_reducible assumption) | (with_reducible refine keep_drew ?_; with_reducible assumption) | (with_reducible refine keep_alloc _ (keep_drew ?_); with_reducible assumption) | (with_reducible refine keep_drew (keep_alloc _ ?_); with_reducible assumption) | (with_reducible refine keep_alloc _ (keep_alloc _ ?_); with_reducible assumption) | (with_reducible refine keep_alloc _ (keep_alloc _ (keep_alloc _ ?_)); with_reducible assumption) | (simp [*]; done))); have qb : Below w17.heap.size w17 wr := below_chain (by ((repeat first | (with_reducible assumption) | (with_reducible exact Below.refl _ _) | ((with_reducible refine bl_alloc _ ?_ ?_); focus (first | (simp; done) | (simp; omega) | omega)) | ((with_reducible refine bl_set _ ?_ ?_); focus (first | (simp; done) | (simp; omega) | omega)) | (with_reducible refine Below.drew ?_) | (with_reducible refine bl_drewN _ ?_)); done)) hb; (try have X1 := nr.blk (heap_alloc_new wt _)); (try have X2 := nr.blk (nt.blk (heap_alloc_new wa _))); (try have X3 := nr.blk (nt.blk (na.blk (heap_alloc_new wk _)))); (try have X4 := nr.blk (nt.blk (na.blk (nk.blk (heap_alloc_new _ _))))); (try have zX10 := (blk_cell X1 0).trans rfl); (try have yX10 := blk_frozen X1 0); (try have zX11 := (blk_cell X1 1).trans rfl); (try have yX11 := blk_frozen X1 1); (try have zX12 := (blk_cell X1 2).trans rfl); (try have yX12 := blk_frozen X1 2); (try have zX13 := (blk_cell X1 3).trans rfl); (try have yX13 := blk_frozen X1 3); (try have zX20 := (blk_cell X2 0).trans rfl); (try have yX20 := blk_frozen X2 0); (try have zX21 := (blk_cell X2 1).trans rfl); (try have yX21 := blk_frozen X2 1); (try have zX22 := (blk_cell X2 2).trans rfl); (try have yX22 := blk_frozen X2 2); (try have zX23 := (blk_cell X2 3).trans rfl); (try have yX23 := blk_frozen X2 3); (try have zX30 := (blk_cell X3 0).trans rfl); (try have yX30 := blk_frozen X3 0); (try have zX31 := (blk_cell X3 1).trans rfl); (try have yX31 := blk_frozen X3 1); (try have zX32 := (blk_cell X3 2).trans rfl); (try have yX32 := blk_frozen X3 2); (try have zX33 := (blk_cell X3 3).trans rfl); (try have yX33 := blk_frozen X3 3); (try have zX40 := (blk_cell X4 0).trans rfl); (try have yX40 := blk_frozen X4 0); (try have zX41 := (blk_cell X4 1).trans rfl); (try have yX41 := blk_frozen X4 1); (try have zX42 := (blk_cell X4 2).trans rfl); (try have yX42 := blk_frozen X4 2); (try have zX43 := (blk_cell X4 3).trans rfl); (try have yX43 := blk_frozen X4 3)))
        all_goals (go_wp2_with fail; go_meet)
        all_goals go_split_ands
        all_goals
          refine ⟨A1, c1, _, rfl, rfl, rfl, hc1, ?_, ?_, ?_⟩
          · first
            | with_reducible exact Kd.C_below hC1 (below_alloc (Below.refl _ _) _)
            | exact (Kd.R_reads' (set4_R (g := g) hR1 (by intro kk hkk; have a := Kd.R_lt hR1 kk hkk; have b := Kd.R_base hR1 kk hkk; omega))).2.2
          · first | with_reducible exact box_new | exact box4 X1 | exact box4 X2 | exact box4 X3 | exact box4 X4
          · assumption

      case rest =>
        obtain ⟨w18, rfl⟩ : ∃ w18, w18 = wc := ⟨_, rfl⟩
        obtain ⟨A2, c2, B2, rfl, rfl, rfl, hc2, hC2, hB2, hb⟩ := hcut
        have HE := hET A2 A0 c2 c0 w18 hC2 hc2 (Kd.C_below HC17.out hb) HG0.out
        have HB2 := Aside0.mk hB2
        have H18 := Aside0.mk hb
        clear hC2 hc2 hB2 hb
        go_wp2_with fail
        refine HE.mono ?_
        rintro e w19 ⟨rfl, hd⟩
        have H19 := Aside0.mk (Drawn0.below hd)
        clear hd HE
        obtain ⟨p0, p1, p2, p3⟩ := HB2.out.below H19.out
        obtain ⟨p4, p5, p6, p7⟩ := (HB17.out.below H18.out).below H19.out
        go_wp2_with fail
        refine (eqIntA4_same g _).mono ?_
        rintro e w20 ⟨rfl, hb⟩
        have H20 := Aside0.mk (below_chain (below_chain H18.out H19.out) hb)
        clear hb H18 H19 p0 p1 p2 p3 p4 p5 p6 p7
        have HH := held_any T.length (by have := HT.out; omega) A1 c1 n1 _ w20 (Kd.R_below HR17.out H20.out)
        go_wp2_with fail
        refine HH.mono ?_
        rintro e w21 ⟨rfl, hb⟩
        have HF := Aside0.mk (below_chain (below_chain HBW.out HW17.out) (below_chain H20.out hb))
        clear HH hb
        go_wp2_with fail
        go_ret
        exact ⟨rfl, HF.out⟩
end Go.Proofs.Ytohbmlhaaagfhaa
