/- The memory of the reference's search: words. No statement of the seat is proved here. -/
import Derived.Test.YtlhodfjdmafapaaNextW
import Derived.Test.YtlhodfjdmafapaaQueue
namespace Go.Proofs.Ytlhodfjdmafapaa
open Go.RowKit Go.Proofs.YtlhodfjdmafapaaW.PrintWords Go.Proofs.YtlhodfjdmafapaaW.PrintLast Go.Proofs.Ytlhodfjdmafapaa.QNx
set_option linter.unusedVariables false
set_option linter.unusedSimpArgs false
theorem flatI : Flat (Kd.int .i64) := fun _ _ _ _ _ _ h => h
/-- the head of a slice -/
structure Hd where
  a : Option Addr
  n : Nat
  c : Nat
def encH (h : Hd) : Value := .slice h.a h.n h.c
def KH : Kd Hd := Kd.scalar encH (fun _ => rfl)
theorem flatH : Flat KH := fun _ _ _ _ _ _ h => h
/-- the rows that the heads tell, each a block of its own, none the block g -/
structure RL (w : World) (base g : Nat) (hs : List Hd) (Q : Int → List Int) : Prop where
  row : ∀ (i : Nat) (h : Hd), hs[i]? = some h → (Kd.int .i64).R 3 w base (fun j => j ≠ g) (encH h) (Q i)
  apart : ∀ (i j : Nat) (h h' : Hd), hs[i]? = some h → hs[j]? = some h' → i ≠ j → ∀ b, (encH h).ownBlock = some b → (encH h').ownBlock ≠ some b
/-- what is held of the steps of a sand -/
structure Nx (k : Nat → Int) (id : Int) (w : World) (v : Value) (wr : World) : Prop where
  row : Kd.R k98 98 wr w.heap.size (fun _ => True) v ((nextL k id).map toS)
theorem Nx.at {k : Nat → Int} {id : Int} {w wr : World} {A : Option Addr} {n c : Nat} (h : Nx k id w (.slice A n c) wr) (i : Nat) (p : Int × Int) (hp : (nextL k id)[i]? = some p) : ∃ ad, A = some ad ∧ wr.cell? (ad.add (i * 2)) = some (.int .i64 p.1) ∧ wr.cell? ⟨(ad.add (i * 2)).block, (ad.add (i * 2)).off + 1, none⟩ = some (.int .i64 p.2) := by
  obtain ⟨h1, _, hC⟩ := Kd.R_reads' h.row
  have hl : i < (nextL k id).length := by
    rcases Nat.lt_or_ge i (nextL k id).length with q | q
    · exact q
    · rw [List.getElem?_eq_none q] at hp; cases hp
  obtain ⟨ad, e, c0, c1⟩ := at_T98 hC (i : Int) (by omega) (by rw [List.length_map]; omega)
  rw [show rd_T98 ((nextL k id).map toS) (i : Int) = toS p by simp [rd_T98, List.getD_eq_getElem?_getD, hp], Int.toNat_natCast] at c0 c1
  exact ⟨ad, e, c0, c1⟩
theorem Nx.len {k : Nat → Int} {id : Int} {w wr : World} {A : Option Addr} {n c : Nat} (h : Nx k id w (.slice A n c) wr) : n = (nextL k id).length := by
  have := (Kd.R_reads' h.row).1
  rwa [List.length_map] at this
theorem Nx.below {k : Nat → Int} {id : Int} {w wr w' : World} {v : Value} (h : Nx k id w v wr) (hb : Below wr.heap.size wr w') : Nx k id w v w' := ⟨Kd.R_below h.row hb⟩
/-- a row of another kind is written -/
theorem Nx.over {k : Nat → Int} {id : Int} {w wr w' : World} {v u : Value} (h : Nx k id w v wr) {e' : TypeId} (hty : ∀ j, u.ownBlock = some j → ∃ cells, wr.heap[j]? = some (.cells cells e' (0, 0))) (he : 98 ≠ e') (hg : wr.grownBy w' u.ownBlock) : Nx k id w v w' :=
  ⟨Kd.R_over' h.row hty (fun q hq => by
    rcases List.mem_cons.1 hq with rfl | hq
    · exact he
    · exact absurd hq List.not_mem_nil) hg⟩
/-- what all loops of the search keep -/
structure EBase (k : Nat → Int) (w : World) (g N co : Nat) (out : List Int) (lv : Value) (hs : List Hd) (Q : Int → List Int) (wr : World) : Prop where
  kit : wr.heap[w.heap.size]? = some (.cells #[.int .i64 (k 0), .int .i64 (k 1), .int .i64 (k 2), .int .i64 (k 3)] 27 (0, 0))
  out : (Kd.int .i64).R 3 wr w.heap.size (fun _ => True) (.slice (some ⟨g, 0, none⟩) N co) out
  list : KH.R 38 wr w.heap.size (fun _ => True) lv hs
  rows : RL wr w.heap.size g hs Q
  below : Below w.heap.size w wr
section
variable {k : Nat → Int} {w wr w' : World} {g N co : Nat} {out : List Int} {lv : Value} {hs : List Hd} {Q : Int → List Int}
theorem RL.below {base : Nat} (h : RL wr base g hs Q) (hb : Below wr.heap.size wr w') : RL w' base g hs Q := ⟨fun i x hx => Kd.R_below (h.row i x hx) hb, h.apart⟩
theorem EBase.step (h : EBase k w g N co out lv hs Q wr) (hb : Below wr.heap.size wr w') : EBase k w g N co out lv hs Q w' :=
  ⟨blk_below h.kit hb, Kd.R_below h.out hb, Kd.R_below h.list hb, h.rows.below hb, below_chain h.below hb⟩
theorem EBase.gtyped (h : EBase k w g N co out lv hs Q wr) : ∃ cells, wr.heap[g]? = some (.cells cells 3 (0, 0)) := Kd.R_typed h.out g rfl
theorem EBase.gbase (h : EBase k w g N co out lv hs Q wr) : w.heap.size ≤ g ∧ g < wr.heap.size := ⟨Kd.R_base h.out g rfl, Kd.R_lt h.out g rfl⟩
/-- a store into the times -/
theorem EBase.setOut (h : EBase k w g N co out lv hs Q wr) (i : Int) (v : Int) (h0 : 0 ≤ i) (h1 : i < (out.length : Int)) : EBase k w g N co (out.set i.toNat v) lv hs Q (wr.setCell ⟨g, i.toNat, none⟩ (.int .i64 v)) := by
  obtain ⟨cells, hg⟩ := h.gtyped
  have hgb := h.gbase
  have hput := Kd.R_putg (enc := Value.int .i64) (h1 := fun _ => rfl) h.out i v
  refine ⟨?_, hput.1, Kd.R_set h.list hg (by decide) _ _, ⟨fun j x hx => ?_, h.rows.apart⟩, h.below.grown hput.2 h.below.size (fun q hq => by have := Option.some.inj hq; omega)⟩
  · exact blk_grown h.kit hput.2 (fun e => by
      have e1 := Option.some.inj e
      rw [← e1, h.kit] at hg
      injection hg with hg; injection hg with _ hg; exact absurd hg (by decide))
  · exact Kd.R_far (p := ⟨g, i.toNat, none⟩) (h.rows.row j x hx) (fun _ hk => hk) _
theorem EBase.form (h : EBase k w g N co out lv hs Q wr) (hp : 0 < hs.length) : ∃ gl cl, lv = .slice (some ⟨gl, 0, none⟩) hs.length cl := by
  obtain ⟨gl, cl, e, _⟩ := Kd.R_form h.list hp
  exact ⟨gl, cl, e⟩
theorem EBase.head {gl n cl : Nat} (h : EBase k w g N co out (.slice (some ⟨gl, 0, none⟩) n cl) hs Q wr) (i : Nat) (x : Hd) (hx : hs[i]? = some x) : wr.cell? ⟨gl, i, none⟩ = some (encH x) ∧ wr.frozen? ⟨gl, i, none⟩ = false := by
  have hl : i < hs.length := by
    rcases Nat.lt_or_ge i hs.length with q | q
    · exact q
    · rw [List.getElem?_eq_none q] at hx; cases hx
  obtain ⟨h1, _⟩ := Kd.R_reads' h.list
  have := Kd.R_celln (⟨none, 0, 0⟩ : Hd) h.list (i : Int) (by omega) (by omega)
  simp only [Int.toNat_natCast] at this
  rw [show rdOf (⟨none, 0, 0⟩ : Hd) hs (i : Int) = x by simp [rdOf, List.getD_eq_getElem?_getD, hx]] at this
  exact this
theorem EBase.rowLen (h : EBase k w g N co out lv hs Q wr) {i : Nat} {x : Hd} (hx : hs[i]? = some x) : x.n = (Q i).length := (Kd.R_reads' (h.rows.row i x hx)).1
theorem EBase.rowAt (h : EBase k w g N co out lv hs Q wr) {i : Nat} {x : Hd} (hx : hs[i]? = some x) (j : Nat) (v : Int) (hv : (Q i)[j]? = some v) : ∃ ad, x.a = some ad ∧ wr.cell? (ad.add j) = some (.int .i64 v) := by
  have hl : j < (Q i).length := by
    rcases Nat.lt_or_ge j (Q i).length with q | q
    · exact q
    · rw [List.getElem?_eq_none q] at hv; cases hv
  obtain ⟨ad, e, hc⟩ := Kd.at_int (Kd.R_reads' (h.rows.row i x hx)).2.2 (j : Int) (by omega) (by omega)
  rw [show rd (Q i) (j : Int) = v by simp [rd, List.getD_eq_getElem?_getD, hv], Int.toNat_natCast] at hc
  exact ⟨ad, e, hc⟩
theorem EBase.outAt (h : EBase k w g N co out lv hs Q wr) (i : Int) (h0 : 0 ≤ i) (h1 : i < (N : Int)) : wr.cell? ⟨g, i.toNat, none⟩ = some (.int .i64 (rd out i)) ∧ wr.frozen? ⟨g, i.toNat, none⟩ = false :=
  Kd.R_celln (0 : Int) h.out i h0 h1
/-- an empty row more -/
theorem EBase.grow (h : EBase k w g N co out lv hs Q wr) {hd : Hd} {v1 : Value} {W : World} (hW : Below wr.heap.size wr W) (hr : (Kd.int .i64).R 3 W w.heap.size (fun j => j ≠ g) (encH hd) []) (hnew : ∀ b, (encH hd).ownBlock = some b → wr.heap.size ≤ b)
    (hl : KH.R 38 w' w.heap.size (fun _ => True) v1 (hs ++ [hd])) (hg : W.grownBy w' lv.ownBlock) (hQ : Q (hs.length : Nat) = []) : EBase k w g N co out v1 (hs ++ [hd]) Q w' := by
  have h2 := h.step hW
  have hty := Kd.R_typed h2.list
  have over : ∀ {v : Value} {xs : List Int} {ok : Nat → Prop}, (Kd.int .i64).R 3 W w.heap.size ok v xs → (Kd.int .i64).R 3 w' w.heap.size ok v xs := fun hx => Kd.R_over' hx hty (by decide) hg
  refine ⟨blk_grown h2.kit hg (Kd.R_ne h2.list h2.kit (by decide)), over h2.out, hl, ⟨fun i x hx => ?_, fun i j x y hx hy hne b hb e => ?_⟩, h2.below.grown hg h2.below.size (fun q hq => Kd.R_base h2.list q hq)⟩
  · by_cases c : i < hs.length
    · rw [List.getElem?_append_left c] at hx
      exact over (h2.rows.row i x hx)
    · by_cases c2 : i = hs.length
      · subst c2
        rw [List.getElem?_append_right (Nat.le_refl _), Nat.sub_self] at hx
        simp only [List.getElem?_cons_zero, Option.some.injEq] at hx
        subst hx
        rw [hQ]
        exact over hr
      · rw [List.getElem?_eq_none (by simp; omega)] at hx; cases hx
  · have old : ∀ (i : Nat) (x : Hd), hs[i]? = some x → ∀ b, (encH x).ownBlock = some b → b < wr.heap.size := fun i x hx b hb => Kd.R_lt (h.rows.row i x hx) b hb
    have cs : ∀ (i : Nat) (x : Hd), (hs ++ [hd])[i]? = some x → (i < hs.length ∧ hs[i]? = some x) ∨ (i = hs.length ∧ x = hd) := fun i x hx => by
      by_cases c : i < hs.length
      · rw [List.getElem?_append_left c] at hx; exact .inl ⟨c, hx⟩
      · by_cases c2 : i = hs.length
        · subst c2
          rw [List.getElem?_append_right (Nat.le_refl _), Nat.sub_self] at hx
          simp only [List.getElem?_cons_zero, Option.some.injEq] at hx
          exact .inr ⟨rfl, hx.symm⟩
        · rw [List.getElem?_eq_none (by simp; omega)] at hx; cases hx
    rcases cs i x hx with ⟨a1, a2⟩ | ⟨a1, a2⟩ <;> rcases cs j y hy with ⟨b1, b2⟩ | ⟨b1, b2⟩
    · exact h.rows.apart i j x y a2 b2 hne b hb e
    · subst b2
      have := old i x a2 b hb
      have := hnew b e
      omega
    · subst a2
      have := old j y b2 b e
      have := hnew b hb
      omega
    · omega
/-- a number more in a row, and the row's head is stored -/
theorem EBase.push {gl cp : Nat} (h : EBase k w g N co out (.slice (some ⟨gl, 0, none⟩) hs.length cp) hs Q wr) {W : World} (hW : Below wr.heap.size wr W) {i : Nat} {x x1 : Hd} (hx : hs[i]? = some x) {l : List Int}
    (hr : (Kd.int .i64).R 3 w' w.heap.size (fun j => j ≠ g) (encH x1) l) (hg : W.grownBy w' (encH x).ownBlock) (hat : (encH x1).ownBlock = (encH x).ownBlock ∨ ∃ b, (encH x1).ownBlock = some b ∧ W.heap.size ≤ b) :
    EBase k w g N co out (.slice (some ⟨gl, 0, none⟩) hs.length cp) (hs.set i x1) (updI Q i l) (w'.setCell ⟨gl, i, none⟩ (encH x1)) := by
  have h2 := h.step hW
  have hrx := h2.rows.row i x hx
  have hty := Kd.R_typed hrx
  have hxg : (encH x).ownBlock ≠ some g := fun e => hrx.1 g e rfl
  have hrows : ∀ (j : Nat) (y : Hd), hs[j]? = some y → j ≠ i → (Kd.int .i64).R 3 w' w.heap.size (fun j => j ≠ g) (encH y) (Q j) := fun j y hy hne => by
    have hry := h2.rows.row j y hy
    exact R_only flatI hry (fun b hb => hg.block b (Kd.R_lt hry b hb) (fun e => h.rows.apart j i y x hy hx hne b hb e.symm))
  have hlist : KH.R 38 w' w.heap.size (fun _ => True) (.slice (some ⟨gl, 0, none⟩) hs.length cp) hs := Kd.R_over' h2.list hty (by decide) hg
  have hkit := blk_grown h2.kit hg (Kd.R_ne hrx h2.kit (by decide))
  have hout : (Kd.int .i64).R 3 w' w.heap.size (fun _ => True) (.slice (some ⟨g, 0, none⟩) N co) out := R_only flatI h2.out (fun b hb => hg.block b (Kd.R_lt h2.out b hb) (fun e => hxg (by
    have e1 : g = b := by simpa [Value.ownBlock] using hb
    rw [← e, e1])))
  have hbel : Below w.heap.size w w' := h2.below.grown hg h2.below.size (fun q hq => Kd.R_base hrx q hq)
  have hput := Kd.R_putg (enc := encH) (h1 := fun _ => rfl) hlist (i : Int) x1
  simp only [Int.toNat_natCast] at hput
  obtain ⟨cells, hgl⟩ := Kd.R_typed hlist gl rfl
  have setI : ∀ {v : Value} {xs : List Int} {ok : Nat → Prop}, (Kd.int .i64).R 3 w' w.heap.size ok v xs → (Kd.int .i64).R 3 (w'.setCell ⟨gl, i, none⟩ (encH x1)) w.heap.size ok v xs := fun hx => Kd.R_set hx hgl (by decide) _ _
  refine ⟨blk_grown hkit hput.2 (fun e => ?_), setI hout, hput.1, ⟨fun j y hy => ?_, fun a b y z hy hz hne c hc e => ?_⟩, hbel.grown hput.2 hbel.size (fun q hq => by have := Option.some.inj hq; have := Kd.R_base hlist gl rfl; omega)⟩
  · have e1 := Option.some.inj e
    rw [← e1, hkit] at hgl
    injection hgl with hgl; injection hgl with _ hgl; exact absurd hgl (by decide)
  · by_cases c : j = i
    · subst c
      rw [List.getElem?_set_self (by
        rcases Nat.lt_or_ge j hs.length with q | q
        · exact q
        · rw [List.getElem?_eq_none q] at hx; cases hx)] at hy
      obtain rfl := Option.some.inj hy
      rw [updI_same]
      exact setI hr
    · rw [List.getElem?_set_ne (Ne.symm c)] at hy
      rw [updI_ne _ _ (by omega)]
      exact setI (hrows j y hy c)
  · have cs : ∀ (a : Nat) (y : Hd), (hs.set i x1)[a]? = some y → (a ≠ i ∧ hs[a]? = some y) ∨ (a = i ∧ y = x1) := fun a y hy => by
      by_cases c : a = i
      · subst c
        rw [List.getElem?_set_self (by
          rcases Nat.lt_or_ge a hs.length with q | q
          · exact q
          · rw [List.getElem?_eq_none q] at hx; cases hx)] at hy
        exact .inr ⟨rfl, (Option.some.inj hy).symm⟩
      · rw [List.getElem?_set_ne (Ne.symm c)] at hy
        exact .inl ⟨c, hy⟩
    have new : ∀ (a : Nat) (y : Hd), a ≠ i → hs[a]? = some y → ∀ c, (encH y).ownBlock = some c → (encH x1).ownBlock ≠ some c := fun a y ha hy c hc e => by
      rcases hat with hat | ⟨b, hb, hle⟩
      · rw [hat] at e
        exact h.rows.apart a i y x hy hx ha c hc e
      · rw [hb] at e
        have := Kd.R_lt (h2.rows.row a y hy) c hc
        have := Option.some.inj e
        omega
    rcases cs a y hy with ⟨a1, a2⟩ | ⟨a1, a2⟩ <;> rcases cs b z hz with ⟨b1, b2⟩ | ⟨b1, b2⟩
    · exact h.rows.apart a b y z a2 b2 hne c hc e
    · subst b2; exact new a y a1 a2 c hc e
    · subst a2; exact new b z b1 b2 c e hc
    · omega
end
theorem cells26 {k : Nat → Int} {w W : World} {gl n cl u : Nat} {hs : List Hd} {x : Hd} {id : Int} {a9 : Addr} {m c9 i : Nat} {p : Int × Int} (hl : KH.R 38 W w.heap.size (fun _ => True) (.slice (some ⟨gl, 0, none⟩) n cl) hs) (hx : hs[u]? = some x) (hn : Nx k id w (.slice (some a9) m c9) W) (hp : (nextL k id)[i]? = some p) :
    W.cell? ⟨gl, u, none⟩ = some (.slice x.a x.n x.c) ∧ W.frozen? ⟨gl, u, none⟩ = false ∧ W.cell? (a9.add (i * 2)) = some (.int .i64 p.1) := by
  have hlt : u < hs.length := by
    rcases Nat.lt_or_ge u hs.length with q | q
    · exact q
    · rw [List.getElem?_eq_none q] at hx; cases hx
  obtain ⟨h1, _⟩ := Kd.R_reads' hl
  have h2 := Kd.R_celln (⟨none, 0, 0⟩ : Hd) hl (u : Int) (by omega) (by omega)
  simp only [Int.toNat_natCast] at h2
  rw [show rdOf (⟨none, 0, 0⟩ : Hd) hs (u : Int) = x by simp [rdOf, List.getD_eq_getElem?_getD, hx]] at h2
  obtain ⟨ad, e, c, _⟩ := hn.at i p hp
  obtain rfl := Option.some.inj e
  exact ⟨h2.1, h2.2, c⟩
theorem lit_readsI {W : World} {g : Nat} {y : Int} (h : W.heap[g]? = some (.cells #[.int .i64 y] 3 (0, 0))) : (Kd.int .i64).C W (some ⟨g, 0, none⟩) 1 [y] := by
  refine ⟨rfl, by omega, fun _ => ⟨_, rfl, fun j p hj => ?_⟩⟩
  cases j with
  | succ j => simp at hj
  | zero =>
    obtain rfl : y = p := by simpa using hj
    refine ⟨[.int .i64 y], rfl, rfl, fun i u hi => ?_⟩
    have e : (⟨g, 0, none⟩ : Addr).add (0 * (Kd.int .i64).sz + i) = ⟨g, i, none⟩ := by simp [Addr.add]; exact fun h => h.symm
    rw [e, blk_cell h i]
    simpa using hi
theorem fresh_of {wv W : World} {g : Nat} (hg : g < wv.heap.size) (hb : Below wv.heap.size wv W) : ∀ q, W.heap.size ≤ q → q ≠ g := fun q hq e => by have := below_size hb; omega
def lenOf : Value → Nat
  | .slice _ n _ => n
  | _ => 0
theorem empty_row (W : World) (base g : Nat) (hb : base ≤ W.heap.size) (hg : g < W.heap.size) : (Kd.int .i64).R 3 (W.alloc (.cells #[] 3)) base (fun j => j ≠ g) (encH ⟨some ⟨W.heap.size, 0, none⟩, 0, 0⟩) [] := by
  refine Kd.R_of_own (enc := Value.int .i64) (xs := []) ?_ (fun j hj => ?_)
  · have := own_lit_of (enc := Value.int .i64) W base 3 [] hb (by simp)
    simpa [encs, encH] using this
  · have : W.heap.size = j := by simpa [Value.ownBlock, encH] using hj
    omega
end Go.Proofs.Ytlhodfjdmafapaa
