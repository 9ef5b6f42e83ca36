/- Texts behind a row, merged by a program of this repo. No statement of the seat is proved here. -/
import Derived.Test.YtlhodfjdmafapaaZSpanWaits2
import Derived.Test.YtlhodfjdmafapaaZSpanWaits0
import Derived.Deep.RegionHeld3
import Derived.Deep.DeepCutAuto
import Derived.Deep.RegionLaw
import Derived.Test.YtlhodfjdmafapaaZSpanWaits1
import Derived.Test.YtlhodfjdmafapaaProg
import Derived.Below
import Derived.Deep.Draws
import Derived.Deep.AppendLies
import Derived.Maps.AppendAt
import Derived.OwnWalk
import Derived.Laws.BytesArg
import Derived.Laws.MakeOwn
import Derived.Laws.OwnMore
import Derived.Deep.OwnRows
import Derived.Tactics
import Derived.Lib.ConvBytes
import Derived.Laws.Slices
import Derived.WalkKit
import Derived.KernelRfl
import Derived.RowKit3
import Derived.Deep.LoopGhost
import Derived.Deep.QuietTactic
import Derived.BigQuiet
import Derived.WideLaws
import Derived.Deep.CutBlock
import Derived.Laws.Rows
import Derived.Lib.AppendStr
import Derived.ArgAppend
import Derived.Laws.IdiomCopy
import Derived.OrdersHeld
import Derived.Laws.BitsLemmas
import Derived.RowKit
import Derived.Test.YtlhodfjdmafapaaWWords
import Derived.Test.YtlhodfjdmafapaaWLast
import Derived.Test.YtlhodfjdmafapaaWTab
import Derived.Test.YtlhodfjdmafapaaWQPut
import Derived.Test.YtlhodfjdmafapaaWApart
import Derived.Test.YtlhodfjdmafapaaWArr
import Derived.Test.YtlhodfjdmafapaaWZeros
import Derived.Test.YtlhodfjdmafapaaWFoot
import Derived.Test.YtlhodfjdmafapaaWKept
import Derived.Test.YtlhodfjdmafapaaWShare
import Derived.Test.YtlhodfjdmafapaaWN
import Derived.Test.YtlhodfjdmafapaaWFootNe
import Derived.Test.YtlhodfjdmafapaaWAt
import Derived.Laws.StructEq
import Derived.Test.YtlhodfjdmafapaaWRepsOne
import Derived.Test.YtlhodfjdmafapaaWInv
import Derived.Test.YtlhodfjdmafapaaWInvWords
import Derived.Test.YtlhodfjdmafapaaWNEv
import Derived.Test.YtlhodfjdmafapaaWMore
import Derived.Laws.CopyOwn
section
namespace Go.Proofs.Ytlhodfjdmafapaa
open Go.RowKit Go.Proofs.YtlhodfjdmafapaaW.PrintWords Go.Proofs.YtlhodfjdmafapaaW.PrintLast Go.Proofs.Ytlhodfjdmafapaa.QMs
set_option linter.unusedVariables false
set_option linter.unusedSimpArgs false
theorem flatI : Flat (Kd.int .i64) := fun _ _ _ _ _ _ h => h
/-- the head of a slice -/
structure Hd where
 a : Option Addr
 n : Nat
 c : Nat
def encH (h : Hd) : Value := .slice h.a h.n h.c
def KH : Kd Hd := Kd.scalar encH (fun _ => rfl)
/-- the rows that the heads tell, each a block of its own, none the block g -/
structure RL (w : World) (base g : Nat) (hs : List Hd) (Q : Int → List Int) : Prop where
 row : ∀ (i : Nat) (h : Hd), hs[i]? = some h → (Kd.int .i64).R 3 w base (fun j => j ≠ g) (encH h) (Q i)
 apart : ∀ (i j : Nat) (h h' : Hd), hs[i]? = some h → hs[j]? = some h' → i ≠ j → ∀ b, (encH h).ownBlock = some b → (encH h').ownBlock ≠ some b
/-- what is held of the steps of a sand -/
structure Nx (k : Nat → Int) (id : Int) (w : World) (v : Value) (wr : World) : Prop where
 row : Kd.R k98 98 wr w.heap.size (fun _ => True) v ((nextL k id).map toS)
theorem Nx.at {k : Nat → Int} {id : Int} {w wr : World} {A : Option Addr} {n c : Nat} (h : Nx k id w (.slice A n c) wr) (i : Nat) (p : Int × Int) (hp : (nextL k id)[i]? = some p) : ∃ ad, A = some ad ∧ wr.cell? (ad.add (i * 2)) = some (.int .i64 p.1) ∧ wr.cell? ⟨(ad.add (i * 2)).block, (ad.add (i * 2)).off + 1, none⟩ = some (.int .i64 p.2) := by
 obtain ⟨h1, _, hC⟩ := Kd.R_reads' h.row
 have hl : i < (nextL k id).length := by
  rcases Nat.lt_or_ge i (nextL k id).length with q | q
  ·exact q
  ·rw [List.getElem?_eq_none q] at hp; cases hp
 obtain ⟨ad, e, c0, c1⟩ := at_T98 hC (i : Int) (by omega) (by rw [List.length_map]; omega)
 rw [show rd_T98 ((nextL k id).map toS) (i : Int) = toS p by simp [rd_T98, List.getD_eq_getElem?_getD, hp], Int.toNat_natCast] at c0 c1
 exact ⟨ad, e, c0, c1⟩
theorem Nx.len {k : Nat → Int} {id : Int} {w wr : World} {A : Option Addr} {n c : Nat} (h : Nx k id w (.slice A n c) wr) : n = (nextL k id).length := by
 have := (Kd.R_reads' h.row).1
 rwa [List.length_map] at this
theorem Nx.below {k : Nat → Int} {id : Int} {w wr w' : World} {v : Value} (h : Nx k id w v wr) (hb : Below wr.heap.size wr w') : Nx k id w v w' := ⟨Kd.R_below h.row hb⟩
/-- a row of another kind is written -/
theorem Nx.over {k : Nat → Int} {id : Int} {w wr w' : World} {v u : Value} (h : Nx k id w v wr) {e' : TypeId} (hty : ∀ j, u.ownBlock = some j → ∃ cells, wr.heap[j]? = some (.cells cells e' (0, 0))) (he : 98 ≠ e') (hg : wr.grownBy w' u.ownBlock) : Nx k id w v w' :=
 ⟨Kd.R_over' h.row hty (fun q hq => by
  rcases List.mem_cons.1 hq with rfl | hq
  ·exact he
  ·exact absurd hq List.not_mem_nil) hg⟩
/-- what all loops of the search keep -/
structure EBase (k : Nat → Int) (w : World) (g N co : Nat) (out : List Int) (lv : Value) (hs : List Hd) (Q : Int → List Int) (wr : World) : Prop where
 kit : wr.heap[w.heap.size]? = some (.cells #[.int .i64 (k 0), .int .i64 (k 1), .int .i64 (k 2), .int .i64 (k 3)] 27 (0, 0))
 out : (Kd.int .i64).R 3 wr w.heap.size (fun _ => True) (.slice (some ⟨g, 0, none⟩) N co) out
 list : KH.R 38 wr w.heap.size (fun _ => True) lv hs
 rows : RL wr w.heap.size g hs Q
 below : Below w.heap.size w wr
section
variable {k : Nat → Int} {w wr w' : World} {g N co : Nat} {out : List Int} {lv : Value} {hs : List Hd} {Q : Int → List Int}
theorem RL.below {base : Nat} (h : RL wr base g hs Q) (hb : Below wr.heap.size wr w') : RL w' base g hs Q := ⟨fun i x hx => Kd.R_below (h.row i x hx) hb, h.apart⟩
theorem EBase.step (h : EBase k w g N co out lv hs Q wr) (hb : Below wr.heap.size wr w') : EBase k w g N co out lv hs Q w' :=
 ⟨blk_below h.kit hb, Kd.R_below h.out hb, Kd.R_below h.list hb, h.rows.below hb, below_chain h.below hb⟩
theorem EBase.gtyped (h : EBase k w g N co out lv hs Q wr) : ∃ cells, wr.heap[g]? = some (.cells cells 3 (0, 0)) := Kd.R_typed h.out g rfl
theorem EBase.gbase (h : EBase k w g N co out lv hs Q wr) : w.heap.size ≤ g ∧ g < wr.heap.size := ⟨Kd.R_base h.out g rfl, Kd.R_lt h.out g rfl⟩
/-- a store into the times -/
theorem EBase.setOut (h : EBase k w g N co out lv hs Q wr) (i : Int) (v : Int) (h0 : 0 ≤ i) (h1 : i < (out.length : Int)) : EBase k w g N co (out.set i.toNat v) lv hs Q (wr.setCell ⟨g, i.toNat, none⟩ (.int .i64 v)) := by
 obtain ⟨cells, hg⟩ := h.gtyped
 have hgb := h.gbase
 have hput := Kd.R_putg (enc := Value.int .i64) (h1 := fun _ => rfl) h.out i v
 refine ⟨?_, hput.1, Kd.R_set h.list hg (by decide) _ _, ⟨fun j x hx => ?_, h.rows.apart⟩, h.below.grown hput.2 h.below.size (fun q hq => by have := Option.some.inj hq; omega)⟩
 ·exact blk_grown h.kit hput.2 (fun e => by
   have e1 := Option.some.inj e
   rw [← e1, h.kit] at hg
   injection hg with hg; injection hg with _ hg; exact absurd hg (by decide))
 ·exact Kd.R_far (p := ⟨g, i.toNat, none⟩) (h.rows.row j x hx) (fun _ hk => hk) _
theorem EBase.form (h : EBase k w g N co out lv hs Q wr) (hp : 0 < hs.length) : ∃ gl cl, lv = .slice (some ⟨gl, 0, none⟩) hs.length cl := by
 obtain ⟨gl, cl, e, _⟩ := Kd.R_form h.list hp
 exact ⟨gl, cl, e⟩
theorem EBase.head {gl n cl : Nat} (h : EBase k w g N co out (.slice (some ⟨gl, 0, none⟩) n cl) hs Q wr) (i : Nat) (x : Hd) (hx : hs[i]? = some x) : wr.cell? ⟨gl, i, none⟩ = some (encH x) ∧ wr.frozen? ⟨gl, i, none⟩ = false := by
 have hl : i < hs.length := by
  rcases Nat.lt_or_ge i hs.length with q | q
  ·exact q
  ·rw [List.getElem?_eq_none q] at hx; cases hx
 obtain ⟨h1, _⟩ := Kd.R_reads' h.list
 have := Kd.R_celln (⟨none, 0, 0⟩ : Hd) h.list (i : Int) (by omega) (by omega)
 simp only [Int.toNat_natCast] at this
 rw [show rdOf (⟨none, 0, 0⟩ : Hd) hs (i : Int) = x by simp [rdOf, List.getD_eq_getElem?_getD, hx]] at this
 exact this
theorem EBase.rowLen (h : EBase k w g N co out lv hs Q wr) {i : Nat} {x : Hd} (hx : hs[i]? = some x) : x.n = (Q i).length := (Kd.R_reads' (h.rows.row i x hx)).1
theorem EBase.rowAt (h : EBase k w g N co out lv hs Q wr) {i : Nat} {x : Hd} (hx : hs[i]? = some x) (j : Nat) (v : Int) (hv : (Q i)[j]? = some v) : ∃ ad, x.a = some ad ∧ wr.cell? (ad.add j) = some (.int .i64 v) := by
 have hl : j < (Q i).length := by
  rcases Nat.lt_or_ge j (Q i).length with q | q
  ·exact q
  ·rw [List.getElem?_eq_none q] at hv; cases hv
 obtain ⟨ad, e, hc⟩ := Kd.at_int (Kd.R_reads' (h.rows.row i x hx)).2.2 (j : Int) (by omega) (by omega)
 rw [show rd (Q i) (j : Int) = v by simp [rd, List.getD_eq_getElem?_getD, hv], Int.toNat_natCast] at hc
 exact ⟨ad, e, hc⟩
theorem EBase.outAt (h : EBase k w g N co out lv hs Q wr) (i : Int) (h0 : 0 ≤ i) (h1 : i < (N : Int)) : wr.cell? ⟨g, i.toNat, none⟩ = some (.int .i64 (rd out i)) ∧ wr.frozen? ⟨g, i.toNat, none⟩ = false :=
 Kd.R_celln (0 : Int) h.out i h0 h1
/-- an empty row more -/
theorem EBase.grow (h : EBase k w g N co out lv hs Q wr) {hd : Hd} {v1 : Value} {W : World} (hW : Below wr.heap.size wr W) (hr : (Kd.int .i64).R 3 W w.heap.size (fun j => j ≠ g) (encH hd) []) (hnew : ∀ b, (encH hd).ownBlock = some b → wr.heap.size ≤ b)
  (hl : KH.R 38 w' w.heap.size (fun _ => True) v1 (hs ++ [hd])) (hg : W.grownBy w' lv.ownBlock) (hQ : Q (hs.length : Nat) = []) : EBase k w g N co out v1 (hs ++ [hd]) Q w' := by
 have h2 := h.step hW
 have hty := Kd.R_typed h2.list
 have over : ∀ {v : Value} {xs : List Int} {ok : Nat → Prop}, (Kd.int .i64).R 3 W w.heap.size ok v xs → (Kd.int .i64).R 3 w' w.heap.size ok v xs := fun hx => Kd.R_over' hx hty (by decide) hg
 refine ⟨blk_grown h2.kit hg (Kd.R_ne h2.list h2.kit (by decide)), over h2.out, hl, ⟨fun i x hx => ?_, fun i j x y hx hy hne b hb e => ?_⟩, h2.below.grown hg h2.below.size (fun q hq => Kd.R_base h2.list q hq)⟩
 ·by_cases c : i < hs.length
  ·rw [List.getElem?_append_left c] at hx
   exact over (h2.rows.row i x hx)
  ·by_cases c2 : i = hs.length
   ·subst c2
    rw [List.getElem?_append_right (Nat.le_refl _), Nat.sub_self] at hx
    simp only [List.getElem?_cons_zero, Option.some.injEq] at hx
    subst hx
    rw [hQ]
    exact over hr
   ·rw [List.getElem?_eq_none (by simp; omega)] at hx; cases hx
 ·have old : ∀ (i : Nat) (x : Hd), hs[i]? = some x → ∀ b, (encH x).ownBlock = some b → b < wr.heap.size := fun i x hx b hb => Kd.R_lt (h.rows.row i x hx) b hb
  have cs : ∀ (i : Nat) (x : Hd), (hs ++ [hd])[i]? = some x → (i < hs.length ∧ hs[i]? = some x) ∨ (i = hs.length ∧ x = hd) := fun i x hx => by
   by_cases c : i < hs.length
   ·rw [List.getElem?_append_left c] at hx; exact .inl ⟨c, hx⟩
   ·by_cases c2 : i = hs.length
    ·subst c2
     rw [List.getElem?_append_right (Nat.le_refl _), Nat.sub_self] at hx
     simp only [List.getElem?_cons_zero, Option.some.injEq] at hx
     exact .inr ⟨rfl, hx.symm⟩
    ·rw [List.getElem?_eq_none (by simp; omega)] at hx; cases hx
  rcases cs i x hx with ⟨a1, a2⟩ | ⟨a1, a2⟩ <;> rcases cs j y hy with ⟨b1, b2⟩ | ⟨b1, b2⟩
  ·exact h.rows.apart i j x y a2 b2 hne b hb e
  ·subst b2
   have := old i x a2 b hb
   have := hnew b e
   omega
  ·subst a2
   have := old j y b2 b e
   have := hnew b hb
   omega
  ·omega
/-- a number more in a row, and the row's head is stored -/
theorem EBase.push {gl cp : Nat} (h : EBase k w g N co out (.slice (some ⟨gl, 0, none⟩) hs.length cp) hs Q wr) {W : World} (hW : Below wr.heap.size wr W) {i : Nat} {x x1 : Hd} (hx : hs[i]? = some x) {l : List Int}
  (hr : (Kd.int .i64).R 3 w' w.heap.size (fun j => j ≠ g) (encH x1) l) (hg : W.grownBy w' (encH x).ownBlock) (hat : (encH x1).ownBlock = (encH x).ownBlock ∨ ∃ b, (encH x1).ownBlock = some b ∧ W.heap.size ≤ b) :
  EBase k w g N co out (.slice (some ⟨gl, 0, none⟩) hs.length cp) (hs.set i x1) (updI Q i l) (w'.setCell ⟨gl, i, none⟩ (encH x1)) := by
 have h2 := h.step hW
 have hrx := h2.rows.row i x hx
 have hty := Kd.R_typed hrx
 have hxg : (encH x).ownBlock ≠ some g := fun e => hrx.1 g e rfl
 have hrows : ∀ (j : Nat) (y : Hd), hs[j]? = some y → j ≠ i → (Kd.int .i64).R 3 w' w.heap.size (fun j => j ≠ g) (encH y) (Q j) := fun j y hy hne => by
  have hry := h2.rows.row j y hy
  exact R_only flatI hry (fun b hb => hg.block b (Kd.R_lt hry b hb) (fun e => h.rows.apart j i y x hy hx hne b hb e.symm))
 have hlist : KH.R 38 w' w.heap.size (fun _ => True) (.slice (some ⟨gl, 0, none⟩) hs.length cp) hs := Kd.R_over' h2.list hty (by decide) hg
 have hkit := blk_grown h2.kit hg (Kd.R_ne hrx h2.kit (by decide))
 have hout : (Kd.int .i64).R 3 w' w.heap.size (fun _ => True) (.slice (some ⟨g, 0, none⟩) N co) out := R_only flatI h2.out (fun b hb => hg.block b (Kd.R_lt h2.out b hb) (fun e => hxg (by
  have e1 : g = b := by simpa [Value.ownBlock] using hb
  rw [← e, e1])))
 have hbel : Below w.heap.size w w' := h2.below.grown hg h2.below.size (fun q hq => Kd.R_base hrx q hq)
 have hput := Kd.R_putg (enc := encH) (h1 := fun _ => rfl) hlist (i : Int) x1
 simp only [Int.toNat_natCast] at hput
 obtain ⟨cells, hgl⟩ := Kd.R_typed hlist gl rfl
 have setI : ∀ {v : Value} {xs : List Int} {ok : Nat → Prop}, (Kd.int .i64).R 3 w' w.heap.size ok v xs → (Kd.int .i64).R 3 (w'.setCell ⟨gl, i, none⟩ (encH x1)) w.heap.size ok v xs := fun hx => Kd.R_set hx hgl (by decide) _ _
 refine ⟨blk_grown hkit hput.2 (fun e => ?_), setI hout, hput.1, ⟨fun j y hy => ?_, fun a b y z hy hz hne c hc e => ?_⟩, hbel.grown hput.2 hbel.size (fun q hq => by have := Option.some.inj hq; have := Kd.R_base hlist gl rfl; omega)⟩
 ·have e1 := Option.some.inj e
  rw [← e1, hkit] at hgl
  injection hgl with hgl; injection hgl with _ hgl; exact absurd hgl (by decide)
 ·by_cases c : j = i
  ·subst c
   rw [List.getElem?_set_self (by
    rcases Nat.lt_or_ge j hs.length with q | q
    ·exact q
    ·rw [List.getElem?_eq_none q] at hx; cases hx)] at hy
   obtain rfl := Option.some.inj hy
   rw [updI_same]
   exact setI hr
  ·rw [List.getElem?_set_ne (Ne.symm c)] at hy
   rw [updI_ne _ _ (by omega)]
   exact setI (hrows j y hy c)
 ·have cs : ∀ (a : Nat) (y : Hd), (hs.set i x1)[a]? = some y → (a ≠ i ∧ hs[a]? = some y) ∨ (a = i ∧ y = x1) := fun a y hy => by
   by_cases c : a = i
   ·subst c
    rw [List.getElem?_set_self (by
     rcases Nat.lt_or_ge a hs.length with q | q
     ·exact q
     ·rw [List.getElem?_eq_none q] at hx; cases hx)] at hy
    exact .inr ⟨rfl, (Option.some.inj hy).symm⟩
   ·rw [List.getElem?_set_ne (Ne.symm c)] at hy
    exact .inl ⟨c, hy⟩
  have new : ∀ (a : Nat) (y : Hd), a ≠ i → hs[a]? = some y → ∀ c, (encH y).ownBlock = some c → (encH x1).ownBlock ≠ some c := fun a y ha hy c hc e => by
   rcases hat with hat | ⟨b, hb, hle⟩
   ·rw [hat] at e
    exact h.rows.apart a i y x hy hx ha c hc e
   ·rw [hb] at e
    have := Kd.R_lt (h2.rows.row a y hy) c hc
    have := Option.some.inj e
    omega
  rcases cs a y hy with ⟨a1, a2⟩ | ⟨a1, a2⟩ <;> rcases cs b z hz with ⟨b1, b2⟩ | ⟨b1, b2⟩
  ·exact h.rows.apart a b y z a2 b2 hne c hc e
  ·subst b2; exact new a y a1 a2 c hc e
  ·subst a2; exact new b z b1 b2 c e hc
  ·omega
end
theorem cells26 {k : Nat → Int} {w W : World} {gl n cl u : Nat} {hs : List Hd} {x : Hd} {id : Int} {a9 : Addr} {m c9 i : Nat} {p : Int × Int} (hl : KH.R 38 W w.heap.size (fun _ => True) (.slice (some ⟨gl, 0, none⟩) n cl) hs) (hx : hs[u]? = some x) (hn : Nx k id w (.slice (some a9) m c9) W) (hp : (nextL k id)[i]? = some p) :
  W.cell? ⟨gl, u, none⟩ = some (.slice x.a x.n x.c) ∧ W.frozen? ⟨gl, u, none⟩ = false ∧ W.cell? (a9.add (i * 2)) = some (.int .i64 p.1) := by
 have hlt : u < hs.length := by
  rcases Nat.lt_or_ge u hs.length with q | q
  ·exact q
  ·rw [List.getElem?_eq_none q] at hx; cases hx
 obtain ⟨h1, _⟩ := Kd.R_reads' hl
 have h2 := Kd.R_celln (⟨none, 0, 0⟩ : Hd) hl (u : Int) (by omega) (by omega)
 simp only [Int.toNat_natCast] at h2
 rw [show rdOf (⟨none, 0, 0⟩ : Hd) hs (u : Int) = x by simp [rdOf, List.getD_eq_getElem?_getD, hx]] at h2
 obtain ⟨ad, e, c, _⟩ := hn.at i p hp
 obtain rfl := Option.some.inj e
 exact ⟨h2.1, h2.2, c⟩
theorem lit_readsI {W : World} {g : Nat} {y : Int} (h : W.heap[g]? = some (.cells #[.int .i64 y] 3 (0, 0))) : (Kd.int .i64).C W (some ⟨g, 0, none⟩) 1 [y] := by
 refine ⟨rfl, by omega, fun _ => ⟨_, rfl, fun j p hj => ?_⟩⟩
 cases j with
 | succ j => simp at hj
 | zero =>
  obtain rfl : y = p := by simpa using hj
  refine ⟨[.int .i64 y], rfl, rfl, fun i u hi => ?_⟩
  have e : (⟨g, 0, none⟩ : Addr).add (0 * (Kd.int .i64).sz + i) = ⟨g, i, none⟩ := by simp [Addr.add]; exact fun h => h.symm
  rw [e, blk_cell h i]
  simpa using hi
theorem fresh_of {wv W : World} {g : Nat} (hg : g < wv.heap.size) (hb : Below wv.heap.size wv W) : ∀ q, W.heap.size ≤ q → q ≠ g := fun q hq e => by have := below_size hb; omega
def lenOf : Value → Nat
 | .slice _ n _ => n
 | _ => 0
theorem empty_row (W : World) (base g : Nat) (hb : base ≤ W.heap.size) (hg : g < W.heap.size) : (Kd.int .i64).R 3 (W.alloc (.cells #[] 3)) base (fun j => j ≠ g) (encH ⟨some ⟨W.heap.size, 0, none⟩, 0, 0⟩) [] := by
 refine Kd.R_of_own (enc := Value.int .i64) (xs := []) ?_ (fun j hj => ?_)
 ·have := own_lit_of (enc := Value.int .i64) W base 3 [] hb (by simp)
  simpa [encs, encH] using this
 ·have : W.heap.size = j := by simpa [Value.ownBlock, encH] using hj
  omega
end Go.Proofs.Ytlhodfjdmafapaa
end
section
namespace Go.Proofs.Ytlhodfjdmafapaa
open Go.RowKit Go.Proofs.YtlhodfjdmafapaaW.PrintWords Go.Proofs.YtlhodfjdmafapaaW.PrintLast Go.Proofs.Ytlhodfjdmafapaa.QMs
set_option linter.unusedVariables false
set_option linter.unusedSimpArgs false
def EarlPost (k : Nat → Int) (w : World) (e : Ending) (w' : World) : Prop :=
 ∃ v0 : Value, e = .returned v0 ∧ (Kd.int .i64).R 3 w' w.heap.size (fun _ => True) v0 (earlL k) ∧ Met k (metL k) ∧ Below w.heap.size w w'
theorem infoI : (Try.prog.info? 3).map (fun i => (i.zero, i.size, i.bytes)) = some (some (.int .i64 0), 1, 8) := by kernel_rfl
theorem infoR : (Try.prog.info? 38).map (fun i => (i.zero, i.size, i.bytes)) = some (some (.slice none 0 0), 1, 24) := by kernel_rfl
theorem start_base {k : Nat → Int} {w W : World} {g N co : Nat} {out : List Int} (hk : W.heap[w.heap.size]? = some (.cells #[.int .i64 (k 0), .int .i64 (k 1), .int .i64 (k 2), .int .i64 (k 3)] 27 (0, 0)))
  (ho : (Kd.int .i64).R 3 W w.heap.size (fun _ => True) (.slice (some ⟨g, 0, none⟩) N co) out) (hb : Below w.heap.size w W) :
  EBase k w g N co out (.slice (some ⟨W.heap.size + 1, 0, none⟩) 1 1) [⟨some ⟨W.heap.size, 0, none⟩, 1, 1⟩] startI ((W.alloc (.cells #[.int .i64 0] 3)).alloc (.cells #[.slice (some ⟨W.heap.size, 0, none⟩) 1 1] 38)) := by
 have hgl : g < W.heap.size := Kd.R_lt ho g rfl
 refine ⟨blk_alloc (blk_alloc hk _) _, Kd.R_alloc (Kd.R_alloc ho _) _, ?_, ⟨fun i h hh => ?_, fun i j h h' hi hj hne => ?_⟩, below_alloc (below_alloc hb _) _⟩
 ·refine Kd.R_of_own (enc := encH) ?_ (fun _ _ => trivial)
  have := own_lit_of (enc := encH) (W.alloc (.cells #[.int .i64 0] 3)) w.heap.size 38 [⟨some ⟨W.heap.size, 0, none⟩, 1, 1⟩] (by have := hb.size; simp; omega) (by simp)
  simpa [encs, encH] using this
 ·cases i with
  | zero =>
   simp only [List.getElem?_cons_zero, Option.some.injEq] at hh
   subst hh
   refine Kd.R_alloc (Kd.R_of_own (enc := Value.int .i64) (xs := [0]) ?_ (fun j hj => ?_)) _
   ·have := own_lit_of (enc := Value.int .i64) W w.heap.size 3 [0] hb.size (by simp)
    simpa [encs, encH] using this
   ·have : W.heap.size = j := by simpa [Value.ownBlock, encH] using hj
    omega
  | succ i => simp at hh
 ·have e1 : i = 0 := by
   cases i with
   | zero => rfl
   | succ i => simp at hi
  have e2 : j = 0 := by
   cases j with
   | zero => rfl
   | succ i => simp at hj
  omega
set_option maxRecDepth 100000 in
set_option maxHeartbeats 4000000 in
theorem earl_any (k : Nat → Int) (hk : isKitB k = true) (hp : prodT k ≤ 3000) (w : World) : Calls Try.prog 45 #[A4 k] w (EarlPost k w) := by
  have HKB := Aside0.mk (kit_bounds hk)
  have HKK := Aside0.mk hk
  clear hk
  have hpr := prod_is HKB.out
  have hp1 := hpr.2
  go_enter Try.func45, Try.ntmps45
  go_wp2_with fail
  refine (l4Many_any k _).mono ?_
  rintro e w1 ⟨rfl, hb1⟩
  rw [hpr.1]
  obtain ⟨N, hN⟩ : ∃ N : Nat, (N : Int) = prodT k := ⟨(prodT k).toNat, by omega⟩
  rw [← hN]
  have HN := Aside0.mk hN
  have hN1 : 1 ≤ N := by omega
  have hN2 : N ≤ 3000 := by omega
  have HK1 := Aside0.mk (show w1.heap[w.heap.size]? = some (.cells #[.int .i64 (k 0), .int .i64 (k 1), .int .i64 (k 2), .int .i64 (k 3)] 27 (0, 0)) from blk_below (heap_alloc_new w _) hb1)
  have HB1 := Aside0.mk (show Below w.heap.size w w1 from below_chain (below_alloc (Below.refl _ _) _) hb1)
  clear hb1 hpr hp1 hp hN
  go_wp2_with (first | ((with_reducible refine gate_dst (N := 15) rfl ?_); refine Kd.R_make (Kd.int .i64) (w0 := w) w.heap.size 3 rfl (N := 15) rfl 38 _ _ rfl (N : Int) rfl rfl Try.underlying38 (.int .i64 0) 8 infoI rfl (by decide) (by omega) 0 (ok := fun _ => True) (okp := fun _ => True) rfl (fun _ hk => hk) trivial (by omega) (by omega) HB1.out HB1.out.size ?_; intro v3 w3 hR3 hb3 hg3 hn3))
  rw [Int.toNat_natCast] at hR3
  obtain ⟨g, cp, rfl, hgb, hgl, _⟩ := Kd.R_form hR3 (by rw [List.length_replicate]; omega)
  rw [List.length_replicate] at hR3 ⊢
  have HR3 := Aside0.mk hR3
  have HK3 := Aside0.mk (blk_grown HK1.out hg3 (by simp))
  have HB3 := Aside0.mk hb3
  have HGG := Aside0.mk (show w.heap.size ≤ g from hgb)
  clear hR3 hb3 hg3 hn3 hgb hgl
  go_loopw [4] (fun v4 wr => ∃ i : Nat, v4 = .int .i64 i ∧ Aside0 (i ≤ N) ∧ Aside0 ((Kd.int .i64).R 3 wr w.heap.size (fun _ => True) (.slice (some ⟨g, 0, none⟩) N cp) (List.replicate i (-1) ++ List.replicate (N - i) 0)) ∧ Aside0 (wr.heap[w.heap.size]? = some (.cells #[.int .i64 (k 0), .int .i64 (k 1), .int .i64 (k 2), .int .i64 (k 3)] 27 (0, 0))) ∧ Aside0 (Below w.heap.size w wr)) (fun v4 _ => N - (intOf v4).toNat)
  case atStart => exact ⟨0, rfl, ⟨Nat.zero_le _⟩, ⟨by simpa using HR3.out⟩, HK3, HB3⟩
  case round =>
    obtain ⟨i, rfl, HI, HR, HK, HB⟩ := hrel
    obtain ⟨wo, rfl⟩ : ∃ wo : World, wo = wr := ⟨_, rfl⟩
    have hiN := HI.out
    by_cases c : i < N
    · have c0 : decide (i < N) = true := decide_eq_true c
      have c1 : decide ((i : Int) < (N : Int)) = true := decide_eq_true (by omega)
      obtain ⟨hx, hf⟩ := Kd.R_celln (0 : Int) HR.out (i : Int) (by omega) (by omega)
      simp only [Int.toNat_natCast] at hx hf
      have p0 : (0 : Int) ≤ (i : Int) := by omega
      have p1 : (i : Int) < (N : Int) := by omega
      have hp0 := Kd.R_putg (enc := Value.int .i64) (h1 := fun _ => rfl) HR.out (i : Int) (-1)
      simp only [Int.toNat_natCast] at hp0
      have HP := Aside0.mk hp0
      clear hp0
      have HSET := Aside0.mk (show (List.replicate i (-1 : Int) ++ List.replicate (N - i) 0).set i (-1) = List.replicate (i + 1) (-1) ++ List.replicate (N - (i + 1)) 0 from by
        rw [List.set_append_right _ _ (by simp), List.length_replicate, Nat.sub_self, show N - i = (N - (i + 1)) + 1 by omega, List.replicate_succ, List.set_cons_zero, List.replicate_succ']
        simp)
      go_wp2_with fail
      exact ⟨⟨i + 1, by go_num, ⟨by omega⟩, ⟨by rw [← HSET.out]; exact HP.out.1⟩, ⟨blk_grown HK.out HP.out.2 (Kd.R_ne HR.out HK.out (by decide))⟩, ⟨HB.out.grown HP.out.2 HB.out.size (fun q hq => by have := Option.some.inj hq; have := HGG.out; omega)⟩⟩, by simp only [intOf]; omega⟩
    · have c0 : decide (i < N) = false := decide_eq_false c
      have c1 : decide ((i : Int) < (N : Int)) = false := decide_eq_false (by omega)
      have ei : i = N := by omega
      have HR2 := Aside0.mk (show (Kd.int .i64).R 3 wo w.heap.size (fun _ => True) (.slice (some ⟨g, 0, none⟩) N cp) (List.replicate N (-1)) from by
        have := HR.out
        rw [ei, Nat.sub_self, List.replicate_zero, List.append_nil] at this
        exact this)
      clear ei
      obtain ⟨hx, hf⟩ := Kd.R_celln (0 : Int) HR2.out (0 : Int) (by omega) (by omega)
      simp only [Int.toNat_zero] at hx hf
      have p1 : (0 : Int) < (N : Int) := by omega
      have hp0 := Kd.R_putg (enc := Value.int .i64) (h1 := fun _ => rfl) HR2.out (0 : Int) 0
      simp only [Int.toNat_zero] at hp0
      have hkit := blk_grown HK.out hp0.2 (Kd.R_ne HR2.out HK.out (by decide))
      have hbel := HB.out.grown hp0.2 HB.out.size (fun q hq => by have := Option.some.inj hq; have := HGG.out; omega)
      have hsz : (wo.setCell ⟨g, 0, none⟩ (.int .i64 0)).heap.size = wo.heap.size := by simp
      have HS := Aside0.mk (start_base (N := N) (co := cp) (g := g) (W := wo.setCell ⟨g, 0, none⟩ (.int .i64 0)) hkit hp0.1 hbel)
      rw [hsz] at HS
      clear hp0 hkit hbel hsz
      have HI0 := Aside0.mk (EInv.start HKB.out HN.out (by have := HN.out; omega))
      go_wp2_with fail
      obtain ⟨out0, hout0⟩ : ∃ o, o = (List.replicate N (-1 : Int)).set 0 0 := ⟨_, rfl⟩
      rw [← hout0] at HS HI0
      have hS2 := HS.out
      clear hx hf p1 HR HK HB HR2 hiN c c0 c1
      go_loopw [5, 6] (fun v5 v6 wr => ∃ (T : Nat) (lv : Value) (hs : List Hd) (out : List Int) (Q : Int → List Int), v5 = lv ∧ v6 = .int .i64 T ∧ Aside0 (EInv k out Q hs.length T 0 0 []) ∧ Aside0 (EBase k w g N cp out lv hs Q wr)) (fun _ v6 _ => 90002 - (intOf v6).toNat)
      case atStart => exact ⟨0, _, [⟨some ⟨wo.heap.size, 0, none⟩, 1, 1⟩], out0, startI, rfl, rfl, HI0, HS⟩
      case round =>
        clear HS HI0 hS2 HR3 HK3 HB3
        obtain ⟨T, lv, hs, out, Q, rfl, rfl, HI, HE⟩ := hrel
        obtain ⟨wz, rfl⟩ : ∃ wz : World, wz = wr := ⟨_, rfl⟩
        have hol : (out.length : Int) = N := by rw [HI.out.olen, HN.out]
        have hlB : hs.length ≤ 90001 := by
          have h1 := HI.out.lenB
          have h2 := cntO_le out
          omega
        have hl1 : 0 < hs.length := by
          have h1 := HI.out.olt 0 (Int.le_refl 0) (by have := HN.out; omega)
          rw [HI.out.zero] at h1
          omega
        obtain ⟨gl, cl, rfl⟩ := HE.out.form hl1
        have HOL := Aside0.mk hol
        clear hol
        by_cases c : T < hs.length
        · have c0 : decide (T < hs.length) = true := decide_eq_true c
          have c1 : decide ((T : Int) < (hs.length : Int)) = true := decide_eq_true (by omega)
          go_wp2_with fail
          go_loopw [5, 7] (fun v5 v7 wr => ∃ (n : Nat) (lv : Value) (hs : List Hd) (out : List Int) (Q : Int → List Int), v5 = lv ∧ v7 = .int .i64 n ∧ Aside0 (T < hs.length) ∧ Aside0 (n ≤ (Q T).length) ∧ Aside0 (EInv k out Q hs.length T n 0 []) ∧ Aside0 (EBase k w g N cp out lv hs Q wr)) (fun _ v7 _ => 3001 - (intOf v7).toNat)
          case atStart => exact ⟨0, _, hs, out, Q, rfl, rfl, ⟨c⟩, ⟨Nat.zero_le _⟩, HI, HE⟩
          case round =>
            have hTN : T ≤ 90001 := by omega
            clear HI HE hl1 hlB HOL c0 c1 c
            obtain ⟨n, lv, hs, out, Q, rfl, rfl, HT, HQ, HI, HE⟩ := hrel
            obtain ⟨wy, rfl⟩ : ∃ wy : World, wy = wr := ⟨_, rfl⟩
            have hTl := HT.out
            have hnQ := HQ.out
            obtain ⟨gl, cl, rfl⟩ := HE.out.form (by omega)
            obtain ⟨⟨ha, hn, hc⟩, hh⟩ : ∃ h, hs[T]? = some h := ⟨_, List.getElem?_eq_getElem hTl⟩
            have hhd : wy.cell? ⟨gl, T, none⟩ = some (.slice ha hn hc) := (HE.out.head T _ hh).1
            obtain rfl : hn = (Q T).length := HE.out.rowLen hh
            have hqN : (Q T).length ≤ N := by
              have := few_nats N ((Q T).map Int.toNat) (by
                unfold List.Nodup
                rw [List.pairwise_map]
                refine List.Pairwise.imp_of_mem ?_ (HI.out.nodup T)
                intro a b ha hb hne e
                have h1 := (HI.out.queue T a ha).1
                have h2 := (HI.out.queue T b hb).1
                omega) (fun x hx => by
                obtain ⟨a, ha, rfl⟩ := List.mem_map.1 hx
                have h1 := HI.out.queue T a ha
                have := HN.out
                omega)
              simpa using this
            have p0 : (0 : Int) ≤ (T : Int) := by omega
            have p1 : (T : Int) < (hs.length : Int) := by omega
            have HHH := Aside0.mk hh
            clear hh
            by_cases c : n < (Q T).length
            · have c0 : decide (n < (Q T).length) = true := decide_eq_true c
              have c1 : decide ((n : Int) < ((Q T).length : Int)) = true := decide_eq_true (by omega)
              obtain ⟨id, hid⟩ : ∃ id, (Q T)[n]? = some id := ⟨_, List.getElem?_eq_getElem c⟩
              obtain ⟨ad, rfl, hcell⟩ := HE.out.rowAt HHH.out n id hid
              have hq := HI.out.queue T id (List.mem_of_getElem? hid)
              have i0 : 0 ≤ id := hq.1
              have i1 : id < (N : Int) := by have := HN.out; omega
              obtain ⟨ho, _⟩ := HE.out.outAt id i0 i1
              have HID := Aside0.mk hid
              have p2 : (0 : Int) ≤ (n : Int) := by omega
              have p3 : (n : Int) < ((Q T).length : Int) := by omega
              clear hid hq
              by_cases cz : rd out id = (T : Int)
              · have z0 : (rd out id == (T : Int)) = true := by simp [cz]
                have z1 : (rd out id != (T : Int)) = false := by simp [cz]
                go_wp2_with fail
                have MK1 := Aside0.mk (show ∀ W' : World, Below wy.heap.size wy W' → W'.cell? ⟨w.heap.size, 0, none⟩ = some (.int .i64 (k 0)) ∧ W'.cell? ⟨w.heap.size, 1, none⟩ = some (.int .i64 (k 1)) ∧ W'.cell? ⟨w.heap.size, 2, none⟩ = some (.int .i64 (k 2)) ∧ W'.cell? ⟨w.heap.size, 3, none⟩ = some (.int .i64 (k 3)) from fun W' hb =>
                  have e := blk_below HE.out.kit hb
                  ⟨(blk_cell e 0).trans rfl, (blk_cell e 1).trans rfl, (blk_cell e 2).trans rfl, (blk_cell e 3).trans rfl⟩)
                have hbw := blk_lt HE.out.kit
                have hbw2 : w.heap.size ≤ wy.heap.size := by omega
                go_cut [9] (fun v9 wx => Aside0 (Kd.R k98 98 wx w.heap.size (fun _ => True) v9 ((nextL k id).map toS)) ∧ Aside0 (Below wy.heap.size wy wx))
                case first =>
                  go_region_held3 (fun w' => w'.cell? ⟨w.heap.size, 0, none⟩ = some (.int .i64 (k 0)) ∧ w'.cell? ⟨w.heap.size, 1, none⟩ = some (.int .i64 (k 1)) ∧ w'.cell? ⟨w.heap.size, 2, none⟩ = some (.int .i64 (k 2)) ∧ w'.cell? ⟨w.heap.size, 3, none⟩ = some (.int .i64 (k 3)))
                    (first | (refine MK1.out _ ?_; ((repeat first | (with_reducible assumption) | (with_reducible exact Below.refl _ _) | ((with_reducible refine bl_alloc _ ?_ ?_); focus (first | (simp; done) | (simp; omega) | omega | (exact below_size (by assumption)))) | (with_reducible refine Below.drew ?_) | (with_reducible refine bl_drewN _ ?_)); done)))
                    (first
                      | (go_at_call 79; refine (l4Sand_any k id HKB.out i0 (by omega) _).mono ?_; rintro e w7 ⟨rfl, hb7⟩; have q7 : Below wy.heap.size wy w7 := below_chain (by ((repeat first | (with_reducible assumption) | (with_reducible exact Below.refl _ _) | ((with_reducible refine bl_alloc _ ?_ ?_); focus (first | (simp; done) | (simp; omega) | omega | (exact below_size (by assumption)))) | (with_reducible refine Below.drew ?_) | (with_reducible refine bl_drewN _ ?_)); done)) hb7)
                      | (go_at_call 78; refine (steps_c k HKK.out id i0 _).mono ?_; rintro e w8 ⟨vn, rfl, hR9, hb8⟩; have q8 : Below wy.heap.size wy w8 := below_chain (by ((repeat first | (with_reducible assumption) | (with_reducible exact Below.refl _ _) | ((with_reducible refine bl_alloc _ ?_ ?_); focus (first | (simp; done) | (simp; omega) | omega | (exact below_size (by assumption)))) | (with_reducible refine Below.drew ?_) | (with_reducible refine bl_drewN _ ?_)); done)) hb8; have hRd := Kd.R_lower hR9 (Nat.le_trans hbw2 (below_size (show Below wy.heap.size wy _ by ((repeat first | (with_reducible assumption) | (with_reducible exact Below.refl _ _) | ((with_reducible refine bl_alloc _ ?_ ?_); focus (first | (simp; done) | (simp; omega) | omega | (exact below_size (by assumption)))) | (with_reducible refine Below.drew ?_) | (with_reducible refine bl_drewN _ ?_)); done))))))
                  all_goals
                    go_wp2_with fail
                    go_meet
                    exact ⟨⟨hRd⟩, ⟨q8⟩⟩
                case rest =>
                  obtain ⟨HR9, HBc⟩ := hcut
                  obtain ⟨A9, c9, rfl⟩ := Kd.R_slice HR9.out
                  rw [List.length_map] at HR9
                  rw [List.length_map]
                  have HX := Aside0.mk (show Nx k id w (.slice A9 (nextL k id).length c9) wc from ⟨HR9.out⟩)
                  have HEc := Aside0.mk (HE.out.step HBc.out)
                  have HTK := Aside0.mk (HI.out.take HID.out cz)
                  have hnx := nextL_len k id
                  have hn3 : n ≤ 3000 := by omega
                  clear HR9 HBc hcell ho z0 z1 cz
                  go_wp2_with fail
                  go_loopw [5, 10] (fun v5 v10 wr => ∃ (i : Nat) (lv : Value) (hs : List Hd) (out : List Int) (Q : Int → List Int), v5 = lv ∧ v10 = .int .i64 i ∧ Aside0 (T < hs.length) ∧ Aside0 (n + 1 ≤ (Q T).length) ∧ Aside0 (i ≤ (nextL k id).length) ∧ Aside0 (EInv k out Q hs.length T (n + 1) id ((nextL k id).drop i)) ∧ Aside0 (EBase k w g N cp out lv hs Q wr) ∧ Aside0 (Nx k id w (.slice A9 (nextL k id).length c9) wr)) (fun _ v10 _ => 17 - (intOf v10).toNat)
                  case atStart => exact ⟨0, _, hs, out, Q, rfl, rfl, HT, ⟨by omega⟩, ⟨Nat.zero_le _⟩, ⟨by rw [List.drop_zero]; exact HTK.out⟩, HEc, HX⟩
                  case round =>
                    clear HX HEc HTK HI HE hhd HHH hqN p1 p3 MK1 hbw hbw2 HT HQ
                    obtain ⟨i, lv, hs, out, Q, rfl, rfl, HT, HQ, HL, HI, HE, HX⟩ := hrel
                    obtain ⟨wx, rfl⟩ : ∃ wx : World, wx = wr := ⟨_, rfl⟩
                    have hTl := HT.out
                    have hil := HL.out
                    obtain ⟨gl, cl, rfl⟩ := HE.out.form (by omega)
                    by_cases ci : i < (nextL k id).length
                    · have ci0 : decide (i < (nextL k id).length) = true := decide_eq_true ci
                      have ci1 : decide ((i : Int) < ((nextL k id).length : Int)) = true := decide_eq_true (by omega)
                      obtain ⟨⟨y, d⟩, hp⟩ : ∃ p, (nextL k id)[i]? = some p := ⟨_, List.getElem?_eq_getElem ci⟩
                      obtain ⟨a9, rfl, hc0, hc1⟩ := HX.out.at i _ hp
                      have hdrop : (nextL k id).drop i = (y, d) :: (nextL k id).drop (i + 1) := by
                        rw [List.drop_eq_getElem_cons ci]
                        congr 1
                        rw [List.getElem?_eq_getElem ci] at hp
                        exact Option.some.inj hp
                      have HI' := Aside0.mk (hdrop ▸ HI.out : EInv k out Q hs.length T (n + 1) id ((y, d) :: (nextL k id).drop (i + 1)))
                      obtain ⟨set, s1, s2, s3, s4, s5, s6, s7⟩ := nextL_mem HKB.out i0 (List.mem_of_getElem? hp)
                      have y0 : 0 ≤ y := s5
                      have y1 : y < (N : Int) := by have := HN.out; simp only at s6; omega
                      have d0 : 0 < d := by simp only at s4; omega
                      have d1 : d ≤ 30 := by simp only at s4; omega
                      obtain ⟨hyo, hyf⟩ := HE.out.outAt y y0 y1
                      have q0 : (0 : Int) ≤ (i : Int) := by omega
                      have q1 : (i : Int) < ((nextL k id).length : Int) := by omega
                      obtain ⟨o, hoo⟩ : ∃ o, rd out y = o := ⟨_, rfl⟩
                      rw [hoo] at hyo
                      have HOO := Aside0.mk hoo
                      have HPI := Aside0.mk hp
                      clear hdrop s1 s2 s3 s4 s5 s6 s7 hp HI hoo
                      by_cases cs : 0 ≤ o ∧ o ≤ T + d
                      · have cs0 : decide (0 ≤ o) = true := decide_eq_true cs.1
                        have cs1 : decide (o ≤ T + d) = true := decide_eq_true cs.2
                        have HDR := Aside0.mk (HI'.out.drop (by show 0 ≤ rd out y ∧ rd out y ≤ T + d; rw [HOO.out]; exact cs))
                        clear cs
                        go_wp2_with fail
                        exact ⟨⟨i + 1, _, hs, out, Q, rfl, by go_num, HT, HQ, ⟨by omega⟩, HDR, HE, HX⟩, by simp only [intOf]; omega⟩
                      · have HPU := Aside0.mk (HI'.out.push HKB.out (by show ¬ (0 ≤ rd out y ∧ rd out y ≤ T + d); rw [HOO.out]; exact cs))
                        have hlB : hs.length ≤ 90001 := by
                          have h1 := HI'.out.lenB
                          have h2 := cntO_le out
                          have h3 := HI'.out.olen
                          have h4 := HN.out
                          omega
                        have hol : y < (out.length : Int) := by
                          have h3 := HI'.out.olen
                          have h4 := HN.out
                          omega
                        have HE2 := Aside0.mk (HE.out.setOut y (T + d) y0 hol)
                        have HX2 := Aside0.mk (HX.out.over (u := .slice (some ⟨g, 0, none⟩) N cp) (Kd.R_typed HE.out.out) (by decide) (Kd.R_putg (enc := Value.int .i64) (h1 := fun _ => rfl) HE.out.out y (T + d)).2)
                        have HQL := Aside0.mk (show ∀ u : Nat, hs.length ≤ u → Q u = [] from fun u hu => by
                          cases h : Q (u : Int) with
                          | nil => rfl
                          | cons a r =>
                            have := (HI'.out.queue u a (by rw [h]; exact List.mem_cons_self)).2.2.2.2
                            omega)
                        clear hol
                        by_cases cs0 : 0 ≤ o
                        · have cs1 : decide (0 ≤ o) = true := decide_eq_true cs0
                          have cs2 : decide (o ≤ T + d) = false := decide_eq_false (fun h => cs ⟨cs0, h⟩)
                          clear cs
                          go_wp2_with fail
                          go_loopw [5] (fun v5 wr => ∃ (lv : Value) (hs' : List Hd), v5 = lv ∧ Aside0 (hs.length ≤ hs'.length) ∧ Aside0 (hs'.length ≤ max hs.length (T + d + 1).toNat) ∧ Aside0 (EBase k w g N cp (out.set y.toNat (T + d)) lv hs' Q wr) ∧ Aside0 (Nx k id w (.slice (some a9) (nextL k id).length c9) wr)) (fun v5 _ => 90040 - lenOf v5)
                          case atStart => exact ⟨_, hs, rfl, ⟨Nat.le_refl _⟩, ⟨Nat.le_max_left _ _⟩, HE2, HX2⟩
                          case round =>
                            clear HE2 HX2 HE HX hyo hyf hc0 hc1
                            obtain ⟨lv, hs', rfl, HL1, HL2, HE, HX⟩ := hrel
                            obtain ⟨wv, rfl⟩ : ∃ wv : World, wv = wr := ⟨_, rfl⟩
                            have hL1 := HL1.out
                            have hL2 := HL2.out
                            obtain ⟨gl, cl, rfl⟩ := HE.out.form (by omega)
                            by_cases cg : (hs'.length : Int) ≤ T + d
                            · have cg0 : decide ((hs'.length : Int) ≤ T + d) = true := decide_eq_true cg
                              have hgb := HE.out.gbase
                              have HER := Aside0.mk (empty_row wv w.heap.size g HE.out.below.size hgb.2)
                              have BA : Below wv.heap.size wv (wv.alloc (.cells #[] 3)) := below_alloc (Below.refl _ _) _
                              have HEA := Aside0.mk (HE.out.step BA)
                              have HBA := Aside0.mk BA
                              clear BA hgb
                              go_wp2_with (first | (at_builtin; refine Kd.R_append KH (w0 := w) w.heap.size rfl (.tmp 102) (.tmp 104) 94 38 (.slice none 0 0) 24 rfl Try.underlying94 infoR rfl (by decide) (by decide) (.slice (some ⟨gl, 0, none⟩) hs'.length cl) hs' (⟨some ⟨wv.heap.size, 0, none⟩, 0, 0⟩ : Hd) [.slice (some ⟨wv.heap.size, 0, none⟩) 0 0] (fun _ => True) (fun _ => False) rfl (by first | (go_simp; done) | (go_simp; rfl)) rfl (fun _ h => h.elim) (fun _ _ => trivial) HEA.out.list HEA.out.below HEA.out.below.size (by omega) ?_; intro v4 w4 hO4 hB4 hg4 hat4) | fail)
                              have HG := Aside0.mk (HE.out.grow HBA.out HER.out (fun b hb => by
                                have : wv.heap.size = b := by simpa [Value.ownBlock, encH] using hb
                                omega) hO4 hg4 (HQL.out hs'.length hL1))
                              have HXG := Aside0.mk ((HX.out.below HBA.out).over (Kd.R_typed HEA.out.list) (by decide) hg4)
                              obtain ⟨A4', c4, rfl⟩ := Kd.R_slice hO4
                              refine ⟨⟨_, hs' ++ [⟨some ⟨wv.heap.size, 0, none⟩, 0, 0⟩], rfl, ⟨by rw [List.length_append]; omega⟩, ⟨by rw [List.length_append, List.length_cons, List.length_nil]; omega⟩, HG, HXG⟩, ?_⟩
                              simp only [lenOf, List.length_append, List.length_cons, List.length_nil]
                              omega
                            · have cg0 : decide ((hs'.length : Int) ≤ T + d) = false := decide_eq_false cg
                              obtain ⟨u, hu⟩ : ∃ u, (T + d : Int).toNat = u := ⟨_, rfl⟩
                              have hu2 : (u : Int) = T + d := by omega
                              obtain ⟨⟨xa, xn, xc⟩, hx⟩ : ∃ x, hs'[u]? = some x := ⟨_, List.getElem?_eq_getElem (by omega)⟩
                              have HU := Aside0.mk hu
                              have HU2 := Aside0.mk hu2
                              have HXX := Aside0.mk hx
                              have HRX := Aside0.mk (HE.out.rows.row u _ hx)
                              have HLQ := Aside0.mk (show ((Q u).length + 1) * 8 ≤ 140737488355328 from by
                                have := few_nats N ((Q u).map Int.toNat) (by
                                  unfold List.Nodup
                                  rw [List.pairwise_map]
                                  refine List.Pairwise.imp_of_mem ?_ (HI'.out.nodup u)
                                  intro a b ha hb hne e
                                  have h1 := (HI'.out.queue u a ha).1
                                  have h2 := (HI'.out.queue u b hb).1
                                  omega) (fun x hx => by
                                  obtain ⟨a, ha, rfl⟩ := List.mem_map.1 hx
                                  have h1 := HI'.out.queue u a ha
                                  have := HN.out
                                  omega)
                                rw [List.length_map] at this
                                omega)
                              have b0 : (0 : Int) ≤ T + d := by omega
                              have b1 : (T + d : Int) < (hs'.length : Int) := by omega
                              have hgs := HE.out.gbase
                              clear hx hu2
                              go_wp2_with fail
                              have hcell := cells26 HE.out.list HXX.out HX.out HPI.out
                              obtain ⟨k26a, k26b, k26c⟩ := hcell
                              have hglt : gl < wv.heap.size := Kd.R_lt HE.out.list gl rfl
                              go_region_law (refine Kd.R_append_rows_step (Kd.int .i64) (w0 := w) w.heap.size (by rfl) (.tmp 111) (.tmp 117) 38 3 (.int .i64 0) 8 rfl Try.underlying38 infoI rfl (by decide) (by decide) (.slice xa xn xc) (Q u) [y] _ _ _ (fun j => j ≠ g) (fun _ => False) rfl rfl (Kd.R_below HRX.out (show Below wv.heap.size wv _ by ((repeat first | (with_reducible assumption) | (with_reducible exact Below.refl _ _) | ((with_reducible refine bl_alloc _ ?_ ?_); focus (first | (simp; done) | (simp; omega) | omega | (exact below_size (by assumption)))) | (with_reducible refine Below.drew ?_) | (with_reducible refine bl_drewN _ ?_)); done))) (lit_readsI (by repeat (first | exact heap_alloc_new _ _ | refine blk_drew ?_ | refine blk_drewN ?_ _ | refine blk_alloc ?_ _))) (fun _ _ h => h) (fun _ h => h.elim) (fresh_of hgs.2 (by ((repeat first | (with_reducible assumption) | (with_reducible exact Below.refl _ _) | ((with_reducible refine bl_alloc _ ?_ ?_); focus (first | (simp; done) | (simp; omega) | omega | (exact below_size (by assumption)))) | (with_reducible refine Below.drew ?_) | (with_reducible refine bl_drewN _ ?_)); done))) (below_chain HE.out.below (show Below wv.heap.size wv _ by ((repeat first | (with_reducible assumption) | (with_reducible exact Below.refl _ _) | ((with_reducible refine bl_alloc _ ?_ ?_); focus (first | (simp; done) | (simp; omega) | omega | (exact below_size (by assumption)))) | (with_reducible refine Below.drew ?_) | (with_reducible refine bl_drewN _ ?_)); done))) (below_chain HE.out.below (show Below wv.heap.size wv _ by ((repeat first | (with_reducible assumption) | (with_reducible exact Below.refl _ _) | ((with_reducible refine bl_alloc _ ?_ ?_); focus (first | (simp; done) | (simp; omega) | omega | (exact below_size (by assumption)))) | (with_reducible refine Below.drew ?_) | (with_reducible refine bl_drewN _ ?_)); done))).size HLQ.out ?_; intro v9 w9 hO9 hB9 hg9 hat9; obtain ⟨A9', c9', rfl⟩ := Kd.R_slice hO9; have S9 := cells26 (Kd.R_over' (Kd.R_below HE.out.list (by ((repeat first | (with_reducible assumption) | (with_reducible exact Below.refl _ _) | ((with_reducible refine bl_alloc _ ?_ ?_); focus (first | (simp; done) | (simp; omega) | omega | (exact below_size (by assumption)))) | (with_reducible refine Below.drew ?_) | (with_reducible refine bl_drewN _ ?_)); done))) (Kd.R_typed (Kd.R_below HRX.out (by ((repeat first | (with_reducible assumption) | (with_reducible exact Below.refl _ _) | ((with_reducible refine bl_alloc _ ?_ ?_); focus (first | (simp; done) | (simp; omega) | omega | (exact below_size (by assumption)))) | (with_reducible refine Below.drew ?_) | (with_reducible refine bl_drewN _ ?_)); done)))) (by decide) hg9) HXX.out ((HX.out.below (by ((repeat first | (with_reducible assumption) | (with_reducible exact Below.refl _ _) | ((with_reducible refine bl_alloc _ ?_ ?_); focus (first | (simp; done) | (simp; omega) | omega | (exact below_size (by assumption)))) | (with_reducible refine Below.drew ?_) | (with_reducible refine bl_drewN _ ?_)); done))).over (Kd.R_typed (Kd.R_below HRX.out (by ((repeat first | (with_reducible assumption) | (with_reducible exact Below.refl _ _) | ((with_reducible refine bl_alloc _ ?_ ?_); focus (first | (simp; done) | (simp; omega) | omega | (exact below_size (by assumption)))) | (with_reducible refine Below.drew ?_) | (with_reducible refine bl_drewN _ ?_)); done)))) (by decide) hg9) HPI.out; have s9a : w9.cell? ⟨gl, u, none⟩ = some (.slice xa xn xc) := S9.1; have s9b : w9.frozen? ⟨gl, u, none⟩ = false := S9.2.1; clear S9)
                              all_goals
                                simp only [List.length_append, List.length_cons, List.length_nil, Nat.zero_add] at hO9 hat9
                                have HFN := Aside0.mk (HE.out.push (by ((repeat first | (with_reducible assumption) | (with_reducible exact Below.refl _ _) | ((with_reducible refine bl_alloc _ ?_ ?_); focus (first | (simp; done) | (simp; omega) | omega | (exact below_size (by assumption)))) | (with_reducible refine Below.drew ?_) | (with_reducible refine bl_drewN _ ?_)); done)) (x1 := ⟨A9', (Q u).length + 1, c9'⟩) HXX.out hO9 hg9 hat9)
                                have hl9 := Kd.R_over' (Kd.R_below HE.out.list (by ((repeat first | (with_reducible assumption) | (with_reducible exact Below.refl _ _) | ((with_reducible refine bl_alloc _ ?_ ?_); focus (first | (simp; done) | (simp; omega) | omega | (exact below_size (by assumption)))) | (with_reducible refine Below.drew ?_) | (with_reducible refine bl_drewN _ ?_)); done))) (Kd.R_typed (Kd.R_below HRX.out (by ((repeat first | (with_reducible assumption) | (with_reducible exact Below.refl _ _) | ((with_reducible refine bl_alloc _ ?_ ?_); focus (first | (simp; done) | (simp; omega) | omega | (exact below_size (by assumption)))) | (with_reducible refine Below.drew ?_) | (with_reducible refine bl_drewN _ ?_)); done)))) (by decide) hg9
                                have hx9 := (HX.out.below (by ((repeat first | (with_reducible assumption) | (with_reducible exact Below.refl _ _) | ((with_reducible refine bl_alloc _ ?_ ?_); focus (first | (simp; done) | (simp; omega) | omega | (exact below_size (by assumption)))) | (with_reducible refine Below.drew ?_) | (with_reducible refine bl_drewN _ ?_)); done))).over (Kd.R_typed (Kd.R_below HRX.out (by ((repeat first | (with_reducible assumption) | (with_reducible exact Below.refl _ _) | ((with_reducible refine bl_alloc _ ?_ ?_); focus (first | (simp; done) | (simp; omega) | omega | (exact below_size (by assumption)))) | (with_reducible refine Below.drew ?_) | (with_reducible refine bl_drewN _ ?_)); done)))) (by decide) hg9
                                have hp9 := (Kd.R_putg (enc := encH) (h1 := fun _ => rfl) hl9 (u : Int) (⟨A9', (Q u).length + 1, c9'⟩ : Hd)).2
                                rw [Int.toNat_natCast] at hp9
                                have HXF := Aside0.mk (hx9.over (u := .slice (some ⟨gl, 0, none⟩) hs'.length cl) (Kd.R_typed hl9) (by decide) hp9)
                                have hpu := HPU.out
                                rw [← HU2.out, show max hs.length ((u : Int) + 1).toNat = hs'.length from by have := HU2.out; omega] at hpu
                                rw [HU2.out] at hpu
                                have HPF := Aside0.mk hpu
                                clear hpu hl9 hx9 hp9
                                go_wp2_with fail
                                refine ⟨⟨i + 1, _, hs'.set u ⟨A9', (Q u).length + 1, c9'⟩, out.set y.toNat (T + d), updI Q u (Q u ++ [y]), rfl, by go_num, ⟨by rw [List.length_set]; omega⟩, ⟨?_⟩, ⟨by omega⟩, ⟨?_⟩, HFN, HXF⟩, by simp only [intOf]; omega⟩
                                · rw [updI_ne _ _ (by have := HU2.out; omega)]; exact HQ.out
                                · rw [List.length_set, HU2.out]; exact HPF.out
                        · have cs1 : decide (0 ≤ o) = false := decide_eq_false cs0
                          clear cs
                          go_wp2_with fail
                          go_loopw [5] (fun v5 wr => ∃ (lv : Value) (hs' : List Hd), v5 = lv ∧ Aside0 (hs.length ≤ hs'.length) ∧ Aside0 (hs'.length ≤ max hs.length (T + d + 1).toNat) ∧ Aside0 (EBase k w g N cp (out.set y.toNat (T + d)) lv hs' Q wr) ∧ Aside0 (Nx k id w (.slice (some a9) (nextL k id).length c9) wr)) (fun v5 _ => 90040 - lenOf v5)
                          case atStart => exact ⟨_, hs, rfl, ⟨Nat.le_refl _⟩, ⟨Nat.le_max_left _ _⟩, HE2, HX2⟩
                          case round =>
                            clear HE2 HX2 HE HX hyo hyf hc0 hc1
                            obtain ⟨lv, hs', rfl, HL1, HL2, HE, HX⟩ := hrel
                            obtain ⟨wv, rfl⟩ : ∃ wv : World, wv = wr := ⟨_, rfl⟩
                            have hL1 := HL1.out
                            have hL2 := HL2.out
                            obtain ⟨gl, cl, rfl⟩ := HE.out.form (by omega)
                            by_cases cg : (hs'.length : Int) ≤ T + d
                            · have cg0 : decide ((hs'.length : Int) ≤ T + d) = true := decide_eq_true cg
                              have hgb := HE.out.gbase
                              have HER := Aside0.mk (empty_row wv w.heap.size g HE.out.below.size hgb.2)
                              have BA : Below wv.heap.size wv (wv.alloc (.cells #[] 3)) := below_alloc (Below.refl _ _) _
                              have HEA := Aside0.mk (HE.out.step BA)
                              have HBA := Aside0.mk BA
                              clear BA hgb
                              go_wp2_with (first | (at_builtin; refine Kd.R_append KH (w0 := w) w.heap.size rfl (.tmp 102) (.tmp 104) 94 38 (.slice none 0 0) 24 rfl Try.underlying94 infoR rfl (by decide) (by decide) (.slice (some ⟨gl, 0, none⟩) hs'.length cl) hs' (⟨some ⟨wv.heap.size, 0, none⟩, 0, 0⟩ : Hd) [.slice (some ⟨wv.heap.size, 0, none⟩) 0 0] (fun _ => True) (fun _ => False) rfl (by first | (go_simp; done) | (go_simp; rfl)) rfl (fun _ h => h.elim) (fun _ _ => trivial) HEA.out.list HEA.out.below HEA.out.below.size (by omega) ?_; intro v4 w4 hO4 hB4 hg4 hat4) | fail)
                              have HG := Aside0.mk (HE.out.grow HBA.out HER.out (fun b hb => by
                                have : wv.heap.size = b := by simpa [Value.ownBlock, encH] using hb
                                omega) hO4 hg4 (HQL.out hs'.length hL1))
                              have HXG := Aside0.mk ((HX.out.below HBA.out).over (Kd.R_typed HEA.out.list) (by decide) hg4)
                              obtain ⟨A4', c4, rfl⟩ := Kd.R_slice hO4
                              refine ⟨⟨_, hs' ++ [⟨some ⟨wv.heap.size, 0, none⟩, 0, 0⟩], rfl, ⟨by rw [List.length_append]; omega⟩, ⟨by rw [List.length_append, List.length_cons, List.length_nil]; omega⟩, HG, HXG⟩, ?_⟩
                              simp only [lenOf, List.length_append, List.length_cons, List.length_nil]
                              omega
                            · have cg0 : decide ((hs'.length : Int) ≤ T + d) = false := decide_eq_false cg
                              obtain ⟨u, hu⟩ : ∃ u, (T + d : Int).toNat = u := ⟨_, rfl⟩
                              have hu2 : (u : Int) = T + d := by omega
                              obtain ⟨⟨xa, xn, xc⟩, hx⟩ : ∃ x, hs'[u]? = some x := ⟨_, List.getElem?_eq_getElem (by omega)⟩
                              have HU := Aside0.mk hu
                              have HU2 := Aside0.mk hu2
                              have HXX := Aside0.mk hx
                              have HRX := Aside0.mk (HE.out.rows.row u _ hx)
                              have HLQ := Aside0.mk (show ((Q u).length + 1) * 8 ≤ 140737488355328 from by
                                have := few_nats N ((Q u).map Int.toNat) (by
                                  unfold List.Nodup
                                  rw [List.pairwise_map]
                                  refine List.Pairwise.imp_of_mem ?_ (HI'.out.nodup u)
                                  intro a b ha hb hne e
                                  have h1 := (HI'.out.queue u a ha).1
                                  have h2 := (HI'.out.queue u b hb).1
                                  omega) (fun x hx => by
                                  obtain ⟨a, ha, rfl⟩ := List.mem_map.1 hx
                                  have h1 := HI'.out.queue u a ha
                                  have := HN.out
                                  omega)
                                rw [List.length_map] at this
                                omega)
                              have b0 : (0 : Int) ≤ T + d := by omega
                              have b1 : (T + d : Int) < (hs'.length : Int) := by omega
                              have hgs := HE.out.gbase
                              clear hx hu2
                              go_wp2_with fail
                              have hcell := cells26 HE.out.list HXX.out HX.out HPI.out
                              obtain ⟨k26a, k26b, k26c⟩ := hcell
                              have hglt : gl < wv.heap.size := Kd.R_lt HE.out.list gl rfl
                              go_region_law (refine Kd.R_append_rows_step (Kd.int .i64) (w0 := w) w.heap.size (by rfl) (.tmp 111) (.tmp 117) 38 3 (.int .i64 0) 8 rfl Try.underlying38 infoI rfl (by decide) (by decide) (.slice xa xn xc) (Q u) [y] _ _ _ (fun j => j ≠ g) (fun _ => False) rfl rfl (Kd.R_below HRX.out (show Below wv.heap.size wv _ by ((repeat first | (with_reducible assumption) | (with_reducible exact Below.refl _ _) | ((with_reducible refine bl_alloc _ ?_ ?_); focus (first | (simp; done) | (simp; omega) | omega | (exact below_size (by assumption)))) | (with_reducible refine Below.drew ?_) | (with_reducible refine bl_drewN _ ?_)); done))) (lit_readsI (by repeat (first | exact heap_alloc_new _ _ | refine blk_drew ?_ | refine blk_drewN ?_ _ | refine blk_alloc ?_ _))) (fun _ _ h => h) (fun _ h => h.elim) (fresh_of hgs.2 (by ((repeat first | (with_reducible assumption) | (with_reducible exact Below.refl _ _) | ((with_reducible refine bl_alloc _ ?_ ?_); focus (first | (simp; done) | (simp; omega) | omega | (exact below_size (by assumption)))) | (with_reducible refine Below.drew ?_) | (with_reducible refine bl_drewN _ ?_)); done))) (below_chain HE.out.below (show Below wv.heap.size wv _ by ((repeat first | (with_reducible assumption) | (with_reducible exact Below.refl _ _) | ((with_reducible refine bl_alloc _ ?_ ?_); focus (first | (simp; done) | (simp; omega) | omega | (exact below_size (by assumption)))) | (with_reducible refine Below.drew ?_) | (with_reducible refine bl_drewN _ ?_)); done))) (below_chain HE.out.below (show Below wv.heap.size wv _ by ((repeat first | (with_reducible assumption) | (with_reducible exact Below.refl _ _) | ((with_reducible refine bl_alloc _ ?_ ?_); focus (first | (simp; done) | (simp; omega) | omega | (exact below_size (by assumption)))) | (with_reducible refine Below.drew ?_) | (with_reducible refine bl_drewN _ ?_)); done))).size HLQ.out ?_; intro v9 w9 hO9 hB9 hg9 hat9; obtain ⟨A9', c9', rfl⟩ := Kd.R_slice hO9; have S9 := cells26 (Kd.R_over' (Kd.R_below HE.out.list (by ((repeat first | (with_reducible assumption) | (with_reducible exact Below.refl _ _) | ((with_reducible refine bl_alloc _ ?_ ?_); focus (first | (simp; done) | (simp; omega) | omega | (exact below_size (by assumption)))) | (with_reducible refine Below.drew ?_) | (with_reducible refine bl_drewN _ ?_)); done))) (Kd.R_typed (Kd.R_below HRX.out (by ((repeat first | (with_reducible assumption) | (with_reducible exact Below.refl _ _) | ((with_reducible refine bl_alloc _ ?_ ?_); focus (first | (simp; done) | (simp; omega) | omega | (exact below_size (by assumption)))) | (with_reducible refine Below.drew ?_) | (with_reducible refine bl_drewN _ ?_)); done)))) (by decide) hg9) HXX.out ((HX.out.below (by ((repeat first | (with_reducible assumption) | (with_reducible exact Below.refl _ _) | ((with_reducible refine bl_alloc _ ?_ ?_); focus (first | (simp; done) | (simp; omega) | omega | (exact below_size (by assumption)))) | (with_reducible refine Below.drew ?_) | (with_reducible refine bl_drewN _ ?_)); done))).over (Kd.R_typed (Kd.R_below HRX.out (by ((repeat first | (with_reducible assumption) | (with_reducible exact Below.refl _ _) | ((with_reducible refine bl_alloc _ ?_ ?_); focus (first | (simp; done) | (simp; omega) | omega | (exact below_size (by assumption)))) | (with_reducible refine Below.drew ?_) | (with_reducible refine bl_drewN _ ?_)); done)))) (by decide) hg9) HPI.out; have s9a : w9.cell? ⟨gl, u, none⟩ = some (.slice xa xn xc) := S9.1; have s9b : w9.frozen? ⟨gl, u, none⟩ = false := S9.2.1; clear S9)
                              all_goals
                                simp only [List.length_append, List.length_cons, List.length_nil, Nat.zero_add] at hO9 hat9
                                have HFN := Aside0.mk (HE.out.push (by ((repeat first | (with_reducible assumption) | (with_reducible exact Below.refl _ _) | ((with_reducible refine bl_alloc _ ?_ ?_); focus (first | (simp; done) | (simp; omega) | omega | (exact below_size (by assumption)))) | (with_reducible refine Below.drew ?_) | (with_reducible refine bl_drewN _ ?_)); done)) (x1 := ⟨A9', (Q u).length + 1, c9'⟩) HXX.out hO9 hg9 hat9)
                                have hl9 := Kd.R_over' (Kd.R_below HE.out.list (by ((repeat first | (with_reducible assumption) | (with_reducible exact Below.refl _ _) | ((with_reducible refine bl_alloc _ ?_ ?_); focus (first | (simp; done) | (simp; omega) | omega | (exact below_size (by assumption)))) | (with_reducible refine Below.drew ?_) | (with_reducible refine bl_drewN _ ?_)); done))) (Kd.R_typed (Kd.R_below HRX.out (by ((repeat first | (with_reducible assumption) | (with_reducible exact Below.refl _ _) | ((with_reducible refine bl_alloc _ ?_ ?_); focus (first | (simp; done) | (simp; omega) | omega | (exact below_size (by assumption)))) | (with_reducible refine Below.drew ?_) | (with_reducible refine bl_drewN _ ?_)); done)))) (by decide) hg9
                                have hx9 := (HX.out.below (by ((repeat first | (with_reducible assumption) | (with_reducible exact Below.refl _ _) | ((with_reducible refine bl_alloc _ ?_ ?_); focus (first | (simp; done) | (simp; omega) | omega | (exact below_size (by assumption)))) | (with_reducible refine Below.drew ?_) | (with_reducible refine bl_drewN _ ?_)); done))).over (Kd.R_typed (Kd.R_below HRX.out (by ((repeat first | (with_reducible assumption) | (with_reducible exact Below.refl _ _) | ((with_reducible refine bl_alloc _ ?_ ?_); focus (first | (simp; done) | (simp; omega) | omega | (exact below_size (by assumption)))) | (with_reducible refine Below.drew ?_) | (with_reducible refine bl_drewN _ ?_)); done)))) (by decide) hg9
                                have hp9 := (Kd.R_putg (enc := encH) (h1 := fun _ => rfl) hl9 (u : Int) (⟨A9', (Q u).length + 1, c9'⟩ : Hd)).2
                                rw [Int.toNat_natCast] at hp9
                                have HXF := Aside0.mk (hx9.over (u := .slice (some ⟨gl, 0, none⟩) hs'.length cl) (Kd.R_typed hl9) (by decide) hp9)
                                have hpu := HPU.out
                                rw [← HU2.out, show max hs.length ((u : Int) + 1).toNat = hs'.length from by have := HU2.out; omega] at hpu
                                rw [HU2.out] at hpu
                                have HPF := Aside0.mk hpu
                                clear hpu hl9 hx9 hp9
                                go_wp2_with fail
                                refine ⟨⟨i + 1, _, hs'.set u ⟨A9', (Q u).length + 1, c9'⟩, out.set y.toNat (T + d), updI Q u (Q u ++ [y]), rfl, by go_num, ⟨by rw [List.length_set]; omega⟩, ⟨?_⟩, ⟨by omega⟩, ⟨?_⟩, HFN, HXF⟩, by simp only [intOf]; omega⟩
                                · rw [updI_ne _ _ (by have := HU2.out; omega)]; exact HQ.out
                                · rw [List.length_set, HU2.out]; exact HPF.out
                    · have ci0 : decide (i < (nextL k id).length) = false := decide_eq_false ci
                      have ci1 : decide ((i : Int) < ((nextL k id).length : Int)) = false := decide_eq_false (by omega)
                      have HE0 := Aside0.mk (show (nextL k id).drop i = [] from List.drop_eq_nil_of_le (by omega))
                      go_wp2_with fail
                      exact ⟨⟨n + 1, _, hs, out, Q, rfl, by go_num, HT, HQ, ⟨(show EInv k out Q hs.length T (n + 1) id [] from HE0.out ▸ HI.out).any 0⟩, HE⟩, by simp only [intOf]; omega⟩
              · have z0 : (rd out id == (T : Int)) = false := by simp [cz]
                have z1 : (rd out id != (T : Int)) = true := by simp [cz]
                have HSK := Aside0.mk (HI.out.skip HID.out cz)
                clear cz
                go_wp2_with fail
                exact ⟨⟨n + 1, _, hs, out, Q, rfl, by go_num, HT, ⟨by omega⟩, HSK, HE⟩, by simp only [intOf]; omega⟩
            · have c0 : decide (n < (Q T).length) = false := decide_eq_false c
              have c1 : decide ((n : Int) < ((Q T).length : Int)) = false := decide_eq_false (by omega)
              go_wp2_with fail
              have HTK := Aside0.mk (HI.out.tick (by omega))
              exact ⟨⟨T + 1, _, hs, out, Q, rfl, by go_num, ⟨by have := HTK.out; rw [show ((T + 1 : Nat) : Int) = (T : Int) + 1 by omega]; exact this⟩, HE⟩, by simp only [intOf]; omega⟩
        · have c0 : decide (T < hs.length) = false := decide_eq_false c
          have c1 : decide ((T : Int) < (hs.length : Int)) = false := decide_eq_false (by omega)
          have HEA := Aside0.mk (HI.out.early HKB.out (by have := HN.out; omega) (by omega))
          go_wp2_with fail
          go_ret
          refine ⟨_, rfl, ?_, HEA.out.2, HE.out.below⟩
          have := HE.out.out
          rw [HEA.out.1] at this
          exact this
end Go.Proofs.Ytlhodfjdmafapaa
end
section
namespace Go.Proofs.Ytlhodfjdmafapaa
open Go.RowKit Go.Maps Go.Proofs.YtlhodfjdmafapaaW.PrintWords Go.Proofs.YtlhodfjdmafapaaW.PrintLast Go.Proofs.Ytlhodfjdmafapaa.QIm
set_option linter.unusedVariables false
set_option linter.unusedSimpArgs false
noncomputable def xEarl.f (a0_0 a0_1 a0_2 a0_3 : Int) : Option (List Int) := if isKitB (v4 a0_0 a0_1 a0_2 a0_3) = true ∧ prodT (v4 a0_0 a0_1 a0_2 a0_3) ≤ 3000 then some (earlL (v4 a0_0 a0_1 a0_2 a0_3)) else none
theorem xEarl.calls (a0_0 a0_1 a0_2 a0_3 : Int) (r : List Int) (w : World) (h : xEarl.f a0_0 a0_1 a0_2 a0_3 = some r) : Calls Try.prog 45 #[.agg #[.int .i64 a0_0, .int .i64 a0_1, .int .i64 a0_2, .int .i64 a0_3]] w fun e w' => ∃ v0_ : Value, e = .returned v0_ ∧ Kd.R (Kd.int .i64) 3 w' w.heap.size (fun _ => True) v0_ r ∧ Below w.heap.size w w' := by
 unfold xEarl.f at h
 split at h
 ·rename_i q
  obtain rfl := Option.some.inj h
  exact (earl_any (v4 a0_0 a0_1 a0_2 a0_3) q.1 q.2 w).mono fun e w' ⟨v, h1, h2, _, h3⟩ => ⟨v, h1, h2, h3⟩
 ·cases h
end Go.Proofs.Ytlhodfjdmafapaa
end
section
noncomputable section
namespace Go.Proofs.Ytlhodfjdmafapaa.QWt
open Go.RowKit Go.Proofs.YtlhodfjdmafapaaW.PrintWords Go.Proofs.YtlhodfjdmafapaaW.PrintLast Go.Proofs.YtlhodfjdmafapaaW.PrintMore Go.Proofs.Ytlhodfjdmafapaa.QMs
attribute [local go_sem] max2_int min2_int max_two min_two max_three min_three max_four min_four   -- for this text's walks alone
set_option linter.unusedVariables false
set_option linter.unusedSimpArgs false
theorem info3 : (Try.prog.info? 3).map (fun i => (i.zero, i.size, i.bytes)) = some (some (.int .i64 0), 1, 8) := by kernel_rfl
/-! ### spec_l4Waits: function 57 -/
mutual
def spec_l4Waits.l0 : Nat → Int → List Int → List (List Bool) → List Int → Int → Option (List Int)
 | 0, _, _, _, _, _ => none
 | k + 1, x1, x5, x6, x7, x8 => if x8 ≤ x1 then (spec_l4Waits.l1 k x1 x5 x6 x7 x8 (-1) 0) else (some x5)
def spec_l4Waits.l1 : Nat → Int → List Int → List (List Bool) → List Int → Int → Int → Int → Option (List Int)
 | 0, _, _, _, _, _, _, _ => none
 | k + 1, x1, x5, x6, x7, x8, x9, x10 => if x10 < (x7.length : Int) then (if 0 ≤ x8 then (if x8 < (x6.length : Int) then (if 0 ≤ x10 then (if x10 < ((rd_L6 x6 x8).length : Int) then (if rdOf false (rd_L6 x6 x8) x10 = true then (if (rd x7 x10) ≥ 0 then (if x9 < 0 then (spec_l4Waits.l1 k x1 x5 x6 x7 x8 (rd x7 x10) (wrap64 (x10 + 1))) else (if (rd x7 x10) < x9 then (spec_l4Waits.l1 k x1 x5 x6 x7 x8 (rd x7 x10) (wrap64 (x10 + 1))) else (spec_l4Waits.l1 k x1 x5 x6 x7 x8 x9 (wrap64 (x10 + 1))))) else (spec_l4Waits.l1 k x1 x5 x6 x7 x8 x9 (wrap64 (x10 + 1)))) else (spec_l4Waits.l1 k x1 x5 x6 x7 x8 x9 (wrap64 (x10 + 1)))) else (none)) else (none)) else (none)) else (none)) else (if x5.length < 17592186044416 then (spec_l4Waits.l0 k x1 (x5 ++ [x9]) x6 x7 (wrap64 (x8 + 1))) else (none))
end
def spec_l4Waits.f (k : Nat) (a0_0 : Int) (a0_1 : Int) (a0_2 : Int) (a0_3 : Int) (a1 : Int) : Option (List Int) := (spec_l4Measured.f k a0_0 a0_1 a0_2 a0_3 a1).bind fun t159 => ((xEarl.f a0_0 a0_1 a0_2 a0_3).bind fun t162 => (spec_l4Waits.l0 k a1 (([] : List Int)) t159 t162 1))
theorem spec_l4Waits.mono_l : ∀ k, (∀ y0 y1 y2 y3 y4, LeO (spec_l4Waits.l0 k y0 y1 y2 y3 y4) (spec_l4Waits.l0 (k + 1) y0 y1 y2 y3 y4)) ∧ (∀ y0 y1 y2 y3 y4 y5 y6, LeO (spec_l4Waits.l1 k y0 y1 y2 y3 y4 y5 y6) (spec_l4Waits.l1 (k + 1) y0 y1 y2 y3 y4 y5 y6))
 | 0 => ⟨fun _ _ _ _ _ r h => by simp [spec_l4Waits.l0] at h, fun _ _ _ _ _ _ _ r h => by simp [spec_l4Waits.l1] at h⟩
 | k + 1 => by
  obtain ⟨ih0, ih1⟩ := spec_l4Waits.mono_l k
  refine ⟨?_, ?_⟩
  ·intro y0 y1 y2 y3 y4
   unfold spec_l4Waits.l0
   repeat' first
   | (with_reducible exact ih0 _ _ _ _ _)
   | (with_reducible exact ih1 _ _ _ _ _ _ _)
   | (with_reducible exact spec_l4Measured.mono _ _ _ _ _ _)
   | (with_reducible exact LeO.refl _)
   | (with_reducible exact LeO.none _)
   | (with_reducible refine LeO.ite ?_ ?_)
   | (with_reducible refine LeO.bind ?_ (fun _ => ?_))
   | exact ih0 _ _ _ _ _
   | exact ih1 _ _ _ _ _ _ _
   | exact spec_l4Measured.mono _ _ _ _ _ _
   | exact LeO.none _
   | refine LeO.ite ?_ ?_
   | refine LeO.bind ?_ (fun _ => ?_)
  ·intro y0 y1 y2 y3 y4 y5 y6
   unfold spec_l4Waits.l1
   repeat' first
   | (with_reducible exact ih0 _ _ _ _ _)
   | (with_reducible exact ih1 _ _ _ _ _ _ _)
   | (with_reducible exact spec_l4Measured.mono _ _ _ _ _ _)
   | (with_reducible exact LeO.refl _)
   | (with_reducible exact LeO.none _)
   | (with_reducible refine LeO.ite ?_ ?_)
   | (with_reducible refine LeO.bind ?_ (fun _ => ?_))
   | exact ih0 _ _ _ _ _
   | exact ih1 _ _ _ _ _ _ _
   | exact spec_l4Measured.mono _ _ _ _ _ _
   | exact LeO.none _
   | refine LeO.ite ?_ ?_
   | refine LeO.bind ?_ (fun _ => ?_)
theorem spec_l4Waits.mono : ∀ a0 a1 a2 a3 a4 k, LeO (spec_l4Waits.f k a0 a1 a2 a3 a4) (spec_l4Waits.f (k + 1) a0 a1 a2 a3 a4) := by
 intro a0 a1 a2 a3 a4 k
 obtain ⟨ih0, ih1⟩ := spec_l4Waits.mono_l k
 unfold spec_l4Waits.f
 repeat' first
   | (with_reducible exact ih0 _ _ _ _ _)
   | (with_reducible exact ih1 _ _ _ _ _ _ _)
   | (with_reducible exact spec_l4Measured.mono _ _ _ _ _ _)
   | (with_reducible exact LeO.refl _)
   | (with_reducible exact LeO.none _)
   | (with_reducible refine LeO.ite ?_ ?_)
   | (with_reducible refine LeO.bind ?_ (fun _ => ?_))
   | exact ih0 _ _ _ _ _
   | exact ih1 _ _ _ _ _ _ _
   | exact spec_l4Measured.mono _ _ _ _ _ _
   | exact LeO.none _
   | refine LeO.ite ?_ ?_
   | refine LeO.bind ?_ (fun _ => ?_)
def spec_l4Waits.T1 : Bool × List (List Nat × List Nat) := (true, [([], []), ([], []), ([], []), ([1, 2], [1, 2]), ([], []), ([4, 3], [4]), ([0, 5, 0], [0]), ([3, 6, 0, 1, 2, 3, 6], [3]), ([5, 7, 0, 1, 2, 3, 4, 5, 6, 7], [5])])
def spec_l4Waits.B1 : List Nat := [0, 0, 0, 6, 0, 30, 63, 127, 255]
theorem spec_l4Waits.tab1 : rtab .any (opsOf Try.f57 1) = spec_l4Waits.T1 := by kernel_rfl
theorem spec_l4Waits.bits1 : waitsOk spec_l4Waits.T1.2 spec_l4Waits.B1 = true := by kernel_rfl
set_option maxHeartbeats 8000000 in
set_option maxRecDepth 100000 in
theorem spec_l4Waits.calls (k : Nat) (a0_0 : Int) (a0_1 : Int) (a0_2 : Int) (a0_3 : Int) (a1 : Int) (r : List Int) (w : World) (h : spec_l4Waits.f k a0_0 a0_1 a0_2 a0_3 a1 = some r) :
  Calls Try.prog 57 #[.agg #[.int .i64 a0_0, .int .i64 a0_1, .int .i64 a0_2, .int .i64 a0_3], .int .i64 a1] w fun e w' => ∃ v0_ : Value, e = .returned (v0_) ∧ Kd.R (Kd.int .i64) 3 w' w.heap.size (fun _ => True) v0_ r ∧ Below w.heap.size w w' := by
 have hu27 := Try.underlying27
 have HB := Aside0.mk (Below.refl w.heap.size w)
 have H : ((spec_l4Measured.f k a0_0 a0_1 a0_2 a0_3 a1).bind fun t159 => ((xEarl.f a0_0 a0_1 a0_2 a0_3).bind fun t162 => (spec_l4Waits.l0 k a1 (([] : List Int)) t159 t162 1))) = some r := h
 clear h
 obtain ⟨y156, hy156⟩ : ∃ y_ : List Int, y_ = (([] : List Int)) := ⟨_, rfl⟩
 replace H : ((spec_l4Measured.f k a0_0 a0_1 a0_2 a0_3 a1).bind fun t159 => ((xEarl.f a0_0 a0_1 a0_2 a0_3).bind fun t162 => (spec_l4Waits.l0 k a1 y156 t159 t162 1))) = some r := by first | (rw [hy156]; with_reducible exact H) | (have H2_ := (Option.bind_some _ _).symm.trans H; rw [hy156]; with_reducible exact H2_) | (have H2_ := (Option.bind_some _ _).symm.trans H; with_reducible exact H2_) | with_reducible exact H | (rw [hy156]; exact H) | exact H
 have Ny156 := Aside0.mk hy156
 clear hy156
 replace H := Option.bind_eq_some_iff.mp H
 obtain ⟨t159, A30, H⟩ := H
 replace H : ((xEarl.f a0_0 a0_1 a0_2 a0_3).bind fun t162 => (spec_l4Waits.l0 k a1 y156 t159 t162 1)) = some r := H
 have A3 := Aside0.mk A30
 clear A30
 replace H := Option.bind_eq_some_iff.mp H
 obtain ⟨t162, A40, H⟩ := H
 replace H : (spec_l4Waits.l0 k a1 y156 t159 t162 1) = some r := H
 have A4 := Aside0.mk A40
 clear A40
 have H' := Aside0.mk H
 clear H
 go_enter Try.func57, Try.ntmps57
 try go_wp2_with (first | ((with_reducible refine gate_dst (N := 2) rfl ?_); refine box_event ?hg (N := 2) ?hd (cs := #[.int .i64 a0_0, .int .i64 a0_1, .int .i64 a0_2, .int .i64 a0_3]) (t := 27) ?hr ?_; (case hd => rfl); (case hg => rfl); (case hr => first | (go_simp; done) | (go_simp; rfl)); intro gb155 hg w5 hbox hb; have n0_ := Aside0.mk (below_step (by repeat (first | (with_reducible first | exact HB.out | apply below_alloc | apply pw_below_drewN | apply below_drew1) | exact HB.out)) hb); have n1_ := Aside0.mk (hbox); have n2_ := Aside0.mk ((by rw [hg]; exact (below_size (by repeat (first | (with_reducible first | exact HB.out | apply below_alloc | apply pw_below_drewN | apply below_drew1) | exact HB.out))) : w.heap.size ≤ gb155)); have n3_ := Aside0.mk ((by rw [hg]; exact (below_size (by repeat (first | (with_reducible first | exact HB.out | apply below_alloc | apply pw_below_drewN | apply below_drew1) | exact HB.out))) : w.heap.size ≤ gb155)); clear HB; have HB := n0_; have BK155 := n1_; have GW155 := n2_; have GE155 := n3_; clear n0_ n1_ n2_ n3_; clear hb hbox hg))
 have n0_ := Aside0.mk (blk_drew BK155.out)
 have n1_ := Aside0.mk (below_drew1 HB.out)
 clear BK155
 clear HB
 have BK155 := n0_
 have HB := n1_
 clear n0_ n1_
 refine start_ (n := 9) (S := fun w' => True) (ds := []) #[false, false, false, false, false, false, false, false, false] (by kernel_rfl) rfl rfl trivial (fun hHeld => ?_); refine with_tabW spec_l4Waits.tab1 spec_l4Waits.bits1 (fun HT_ HW_ => ?_)
 generalize w5.drew = w6 at BK155 HB hHeld ⊢
 refine pure_ (i := 2) (N := some 13) (v := ?_) (a' := ?_) #[false, false, true, false, false, false, false, false, false] rfl rfl (any_of HT_.out (by kernel_rfl)) (fun _ _ _ h => h) (Or.inl ⟨by rfl, ?_⟩) ?_ ?_
 rotate_left
 ·intro w'
  go_simp
  with_reducible rfl
 rotate_left
 ·simp only [Act.put, List.setIfInBounds_toArray, List.set_cons_zero, List.set_cons_succ, i64_w, i32_w]
  rfl
 refine inv_at [0, 1, 3, 4, 5, 6, 7, 8] (fun a0_ b a w' => ∃ (v157 : Value) (v160 : Value) (v163 : Value) (m6_ : Value) (m7_ : Value) (m8_ : Value), a = putSel a0_ b [(0, 11, v157), (1, 12, .agg #[.int .i64 a0_0, .int .i64 a0_1, .int .i64 a0_2, .int .i64 a0_3]), (3, 14, v160), (4, 15, .agg #[.int .i64 a0_0, .int .i64 a0_1, .int .i64 a0_2, .int .i64 a0_3]), (5, 16, v163), (6, 5, m6_), (7, 6, m7_), (8, 7, m8_)] ∧ (w'.heap[gb155]? = some (.cells #[.int .i64 a0_0, .int .i64 a0_1, .int .i64 a0_2, .int .i64 a0_3] 27 (0, 0))) ∧ (Below w.heap.size w w') ∧ (b 0 = true → Kd.R (Kd.int .i64) 3 w' w.heap.size (fun _ => True) v157 y156) ∧ (b 3 = true → Kd.N (Kd.slice 4 Kd.bool) 60 w' w.heap.size (fun k_ => (b 0 = true → some k_ ≠ (v157 : Value).ownBlock) ∧ (b 5 = true → some k_ ≠ (v163 : Value).ownBlock) ∧ k_ ≠ gb155) v160 t159) ∧ (b 5 = true → Kd.R (Kd.int .i64) 3 w' w.heap.size (fun k_ => b 0 = true → some k_ ≠ (v157 : Value).ownBlock) v163 t162) ∧ (b 6 = true → (m6_ : Value) = v157) ∧ (b 7 = true → (m7_ : Value) = v160) ∧ (b 8 = true → (m8_ : Value) = v163)) HT_.out HW_.out (by kernel_rfl) (by kernel_rfl) ?_ ?_ ?_
 ·exact ⟨.bool false, .bool false, .bool false, .bool false, .bool false, .bool false, by simp only [putSel, Bool.false_eq_true, if_false], BK155.out, HB.out, fun h_ => absurd h_ (by decide), fun h_ => absurd h_ (by decide), fun h_ => absurd h_ (by decide), fun h_ => absurd h_ (by decide), fun h_ => absurd h_ (by decide), fun h_ => absurd h_ (by decide)⟩
 ·skip
  clear BK155 HB
  refine steps_cons ?_ ?_
  ·rintro b a w' ⟨v157, v160, v163, m6_, m7_, m8_, ha, Q_BK155, Q_HB, Q_HO158, Q_HO161, Q_HO164, Q_X6_, Q_X7_, Q_X8_⟩ hb_ hon hoff
   refine ⟨_, rfl, fun K hK => ?_⟩
   replace ha := Aside0.mk ha
   have BK155 := Aside0.mk Q_BK155
   have HB := Aside0.mk Q_HB
   refine Kd.R_lit_step (Kd.int .i64) _ 3 ?hg (N := 11) ?hd (xs := ([] : List Int)) (inner := []) (ok := fun _ => True) (okp := fun _ => True) ?hr ?hp (fun _ hk => hk) trivial (Below.refl _ _) (Nat.le_refl _) (by simp) ?_; (case hd => rfl); (case hg => rfl); (case hr => first | (go_simp; done) | (go_simp; rfl)); (case hp => exact (Reps.none _ _))
   intro v157 w7 ho8 hb hg_ hnew_
   clear hg_ hnew_
   (first | rw [← Ny156.out] at ho8 | (simp only [Int.reduceToNat] at ho8; rw [← Ny156.out] at ho8))
   have n0_ := Aside0.mk (Kd.R_lower ho8 (below_size (by repeat (first | (with_reducible first | exact HB.out | apply below_alloc | apply pw_below_drewN | apply below_drew1 | refine below_set ?_ GE155.out) | exact HB.out))))
   have n1_ := Aside0.mk (blk_below (g := gb155) (o := .cells #[.int .i64 a0_0, .int .i64 a0_1, .int .i64 a0_2, .int .i64 a0_3] 27 (0, 0)) (by (with_reducible repeat (first | refine blk_drewN ?_ _ | refine blk_drew ?_ | refine blk_alloc ?_ _)); exact BK155.out) hb)
   have n2_ := Aside0.mk (below_step (by repeat (first | (with_reducible first | exact HB.out | apply below_alloc | apply pw_below_drewN | apply below_drew1 | refine below_set ?_ GE155.out) | exact HB.out)) hb)
   clear BK155
   clear HB
   have HO158 := n0_
   have BK155 := n1_
   have HB := n2_
   clear n0_ n1_ n2_
   refine hK.out _ _ ⟨v157, v160, v163, m6_, m7_, m8_, (by rw [ha.out]; exact putSel_upk 0 hb_ rfl rfl rfl), (by (with_reducible repeat (first | refine blk_drewN ?_ _ | refine blk_drew ?_ | refine blk_alloc ?_ _)); exact BK155.out), (by repeat (first | (with_reducible first | exact HB.out | apply below_alloc | apply pw_below_drewN | apply below_drew1 | refine below_set ?_ GE155.out) | exact HB.out)), fun _ => (by (with_reducible repeat (first | apply Kd.R_alloc | apply Kd.R_drewN | apply Kd.R_drew)); exact HO158.out), (fun h0_ => Kd.N_mono (Kd.N_elder' (Q_HO161 h0_) (Kd.R_base ho8) hb) (fun k_ hk_ => ⟨fun _ => hk_.2, hk_.1.2.1, hk_.1.2.2⟩)), (fun h0_ => Kd.R_mono (Kd.R_elder' (Q_HO164 h0_) (Kd.R_base ho8) hb) (fun k_ hk_ _ => hk_.2)), fun h0_ => absurd ((hoff 6 (by kernel_rfl)).symm.trans h0_) (by decide), fun h0_ => absurd ((hoff 7 (by kernel_rfl)).symm.trans h0_) (by decide), fun h0_ => absurd ((hoff 8 (by kernel_rfl)).symm.trans h0_) (by decide)⟩
  refine steps_cons ?_ ?_
  ·rintro b a w' ⟨v157, v160, v163, m6_, m7_, m8_, ha, Q_BK155, Q_HB, Q_HO158, Q_HO161, Q_HO164, Q_X6_, Q_X7_, Q_X8_⟩ hb_ hon hoff
   refine ⟨_, rfl, fun K hK => ?_⟩
   have e2 : a.tmps[2]? = some (.pointer (some ⟨gb155, 0, none⟩)) := by rw [ha]; exact (putSel_off rfl).trans rfl
   replace ha := Aside0.mk ha
   have BK155 := Aside0.mk Q_BK155
   have HB := Aside0.mk Q_HB
   have hc0_ : w'.cell? ⟨gb155, 0, none⟩ = some (.int .i64 a0_0) := (blk_cell BK155.out 0).trans rfl
   have hc1_ : w'.cell? ⟨gb155, 1, none⟩ = some (.int .i64 a0_1) := (blk_cell BK155.out 1).trans rfl
   have hc2_ : w'.cell? ⟨gb155, 2, none⟩ = some (.int .i64 a0_2) := (blk_cell BK155.out 2).trans rfl
   have hc3_ : w'.cell? ⟨gb155, 3, none⟩ = some (.int .i64 a0_3) := (blk_cell BK155.out 3).trans rfl
   refine value_ (w1 := w') (v := .agg #[.int .i64 a0_0, .int .i64 a0_1, .int .i64 a0_2, .int .i64 a0_3]) (by rfl) rfl ?_ ?_
   ·go_simp
    (try simp only [i64_w])
    try rfl
   refine hK.out _ _ ⟨v157, v160, v163, m6_, m7_, m8_, (by rw [ha.out]; exact putSel_upk 1 hb_ rfl rfl rfl), Q_BK155, Q_HB, Q_HO158, fun h0_ => absurd ((hoff 3 (by kernel_rfl)).symm.trans h0_) (by decide), fun h0_ => absurd ((hoff 5 (by kernel_rfl)).symm.trans h0_) (by decide), fun h0_ => absurd ((hoff 6 (by kernel_rfl)).symm.trans h0_) (by decide), fun h0_ => absurd ((hoff 7 (by kernel_rfl)).symm.trans h0_) (by decide), fun h0_ => absurd ((hoff 8 (by kernel_rfl)).symm.trans h0_) (by decide)⟩
  refine steps_cons ?_ ?_
  ·rintro b a w' ⟨v157, v160, v163, m6_, m7_, m8_, ha, Q_BK155, Q_HB, Q_HO158, Q_HO161, Q_HO164, Q_X6_, Q_X7_, Q_X8_⟩ hb_ hon hoff
   refine ⟨_, rfl, fun K hK => ?_⟩
   have e12 : a.tmps[12]? = some (.agg #[.int .i64 a0_0, .int .i64 a0_1, .int .i64 a0_2, .int .i64 a0_3]) := by rw [ha]; exact putSel_on (e := (1, 12, .agg #[.int .i64 a0_0, .int .i64 a0_1, .int .i64 a0_2, .int .i64 a0_3])) 1 rfl rfl (hon 1 (by kernel_rfl)) rfl
   have e13 : a.tmps[13]? = some (.int .i64 a1) := by rw [ha]; exact (putSel_off rfl).trans rfl
   replace ha := Aside0.mk ha
   have BK155 := Aside0.mk Q_BK155
   have HB := Aside0.mk Q_HB
   refine goes_ Try.func53 (by kernel_rfl) rfl #[.agg #[.int .i64 a0_0, .int .i64 a0_1, .int .i64 a0_2, .int .i64 a0_3], .int .i64 a1] (by rfl) rfl rfl (by first | (simp only [List.map_toArray, List.map_cons, List.map_nil, Act.eval, Array.getD_eq_getD_getElem?, Option.getD_some, e12, e13]; done) | (simp only [List.map_toArray, List.map_cons, List.map_nil, Act.eval, Array.getD_eq_getD_getElem?, Option.getD_some, e12, e13]; rfl)) ?_
   with_reducible refine (spec_l4Measured.calls k a0_0 a0_1 a0_2 a0_3 a1 t159 _ A3.out).mono ?_
   rintro e w7 ⟨v160, rfl, ho0, hb⟩
   refine ⟨_, rfl, ?_⟩
   have n0_ := Aside0.mk (show Kd.N (Kd.slice 4 Kd.bool) 60 w7 w.heap.size (fun k_ => (b 0 = true → some k_ ≠ (v157 : Value).ownBlock) ∧ (b 5 = true → some k_ ≠ (v163 : Value).ownBlock) ∧ k_ ≠ gb155) v160 t159 from Kd.N_lower (Kd.N_mono ho0 (fun k_ hk_ => ⟨fun h0_ e_ => (by have := Kd.R_lt (Q_HO158 h0_) k_ e_.symm; omega), fun h5_ => absurd ((hoff 5 (by kernel_rfl)).symm.trans h5_) (by decide), (Kd.freshB (g := gb155) (o := .cells #[.int .i64 a0_0, .int .i64 a0_1, .int .i64 a0_2, .int .i64 a0_3] 27 (0, 0)) (by (with_reducible repeat (first | refine blk_drewN ?_ _ | refine blk_drew ?_ | refine blk_alloc ?_ _)); exact BK155.out) k_ hk_)⟩)) (below_size (by repeat (first | (with_reducible first | exact HB.out | apply below_alloc | apply pw_below_drewN | apply below_drew1 | refine below_set ?_ GE155.out) | exact HB.out))))
   have n1_ := Aside0.mk (blk_below (g := gb155) (o := .cells #[.int .i64 a0_0, .int .i64 a0_1, .int .i64 a0_2, .int .i64 a0_3] 27 (0, 0)) (by (with_reducible repeat (first | refine blk_drewN ?_ _ | refine blk_drew ?_ | refine blk_alloc ?_ _)); exact BK155.out) hb)
   have n2_ := Aside0.mk (below_step (by repeat (first | (with_reducible first | exact HB.out | apply below_alloc | apply pw_below_drewN | apply below_drew1 | refine below_set ?_ GE155.out) | exact HB.out)) hb)
   have z_HO158 := fun (h0_ : b 0 = true) => (show Kd.R (Kd.int .i64) 3 w7 w.heap.size (fun _ => True) v157 y156 from by first | exact (Kd.R_below (by (with_reducible repeat (first | apply Kd.R_alloc | apply Kd.R_drewN | apply Kd.R_drew)); exact (Q_HO158 h0_)) hb) | exact Kd.R_mono (Kd.R_below (by (with_reducible repeat (first | apply Kd.R_alloc | apply Kd.R_drewN | apply Kd.R_drew)); exact (Q_HO158 h0_)) hb) (fun _ h_ => by first | trivial | exact h_ | exact h_.1))
   clear BK155
   clear HB
   have HO161 := n0_
   have BK155 := n1_
   have HB := n2_
   clear n0_ n1_ n2_
   (try clear hb2)
   (try clear hk)
   (try clear hi)
   refine hK.out _ _ ⟨v157, v160, v163, m6_, m7_, m8_, (by rw [ha.out]; exact putSel_upk 2 hb_ rfl rfl rfl), (by (with_reducible repeat (first | refine blk_drewN ?_ _ | refine blk_drew ?_ | refine blk_alloc ?_ _)); exact BK155.out), (by repeat (first | (with_reducible first | exact HB.out | apply below_alloc | apply pw_below_drewN | apply below_drew1 | refine below_set ?_ GE155.out) | exact HB.out)), z_HO158, fun _ => (by (with_reducible repeat (first | apply Kd.N_alloc | apply Kd.N_drewN | apply Kd.N_drew)); exact HO161.out), fun h0_ => absurd ((hoff 5 (by kernel_rfl)).symm.trans h0_) (by decide), fun h0_ => absurd ((hoff 6 (by kernel_rfl)).symm.trans h0_) (by decide), fun h0_ => absurd ((hoff 7 (by kernel_rfl)).symm.trans h0_) (by decide), fun h0_ => absurd ((hoff 8 (by kernel_rfl)).symm.trans h0_) (by decide)⟩
  refine steps_cons ?_ ?_
  ·rintro b a w' ⟨v157, v160, v163, m6_, m7_, m8_, ha, Q_BK155, Q_HB, Q_HO158, Q_HO161, Q_HO164, Q_X6_, Q_X7_, Q_X8_⟩ hb_ hon hoff
   refine ⟨_, rfl, fun K hK => ?_⟩
   have e2 : a.tmps[2]? = some (.pointer (some ⟨gb155, 0, none⟩)) := by rw [ha]; exact (putSel_off rfl).trans rfl
   replace ha := Aside0.mk ha
   have BK155 := Aside0.mk Q_BK155
   have HB := Aside0.mk Q_HB
   have hc0_ : w'.cell? ⟨gb155, 0, none⟩ = some (.int .i64 a0_0) := (blk_cell BK155.out 0).trans rfl
   have hc1_ : w'.cell? ⟨gb155, 1, none⟩ = some (.int .i64 a0_1) := (blk_cell BK155.out 1).trans rfl
   have hc2_ : w'.cell? ⟨gb155, 2, none⟩ = some (.int .i64 a0_2) := (blk_cell BK155.out 2).trans rfl
   have hc3_ : w'.cell? ⟨gb155, 3, none⟩ = some (.int .i64 a0_3) := (blk_cell BK155.out 3).trans rfl
   refine value_ (w1 := w') (v := .agg #[.int .i64 a0_0, .int .i64 a0_1, .int .i64 a0_2, .int .i64 a0_3]) (by rfl) rfl ?_ ?_
   ·go_simp
    (try simp only [i64_w])
    try rfl
   refine hK.out _ _ ⟨v157, v160, v163, m6_, m7_, m8_, (by rw [ha.out]; exact putSel_upk 3 hb_ rfl rfl rfl), Q_BK155, Q_HB, Q_HO158, Q_HO161, fun h0_ => absurd ((hoff 5 (by kernel_rfl)).symm.trans h0_) (by decide), fun h0_ => absurd ((hoff 6 (by kernel_rfl)).symm.trans h0_) (by decide), fun h0_ => absurd ((hoff 7 (by kernel_rfl)).symm.trans h0_) (by decide), fun h0_ => absurd ((hoff 8 (by kernel_rfl)).symm.trans h0_) (by decide)⟩
  refine steps_cons ?_ ?_
  ·rintro b a w' ⟨v157, v160, v163, m6_, m7_, m8_, ha, Q_BK155, Q_HB, Q_HO158, Q_HO161, Q_HO164, Q_X6_, Q_X7_, Q_X8_⟩ hb_ hon hoff
   refine ⟨_, rfl, fun K hK => ?_⟩
   have e15 : a.tmps[15]? = some (.agg #[.int .i64 a0_0, .int .i64 a0_1, .int .i64 a0_2, .int .i64 a0_3]) := by rw [ha]; exact putSel_on (e := (4, 15, .agg #[.int .i64 a0_0, .int .i64 a0_1, .int .i64 a0_2, .int .i64 a0_3])) 3 rfl rfl (hon 4 (by kernel_rfl)) rfl
   replace ha := Aside0.mk ha
   have BK155 := Aside0.mk Q_BK155
   have HB := Aside0.mk Q_HB
   have HO161 := Aside0.mk (Q_HO161 (hon 3 (by kernel_rfl)))
   refine goes_ Try.func45 (by kernel_rfl) rfl #[.agg #[.int .i64 a0_0, .int .i64 a0_1, .int .i64 a0_2, .int .i64 a0_3]] (by rfl) rfl rfl (by first | (simp only [List.map_toArray, List.map_cons, List.map_nil, Act.eval, Array.getD_eq_getD_getElem?, Option.getD_some, e15]; done) | (simp only [List.map_toArray, List.map_cons, List.map_nil, Act.eval, Array.getD_eq_getD_getElem?, Option.getD_some, e15]; rfl)) ?_
   with_reducible refine (xEarl.calls a0_0 a0_1 a0_2 a0_3 t162 _ A4.out).mono ?_
   rintro e w9 ⟨v163, rfl, ho0, hb⟩
   refine ⟨_, rfl, ?_⟩
   have n0_ := Aside0.mk (Kd.N_elder' (by (with_reducible repeat (first | apply Kd.N_alloc | apply Kd.N_drewN | apply Kd.N_drew)); exact HO161.out) (Kd.R_base ho0) hb)
   have n1_ := Aside0.mk (Kd.R_lower ho0 (below_size (by repeat (first | (with_reducible first | exact HB.out | apply below_alloc | apply pw_below_drewN | apply below_drew1 | refine below_set ?_ GE155.out) | exact HB.out))))
   have n2_ := Aside0.mk (blk_below (g := gb155) (o := .cells #[.int .i64 a0_0, .int .i64 a0_1, .int .i64 a0_2, .int .i64 a0_3] 27 (0, 0)) (by (with_reducible repeat (first | refine blk_drewN ?_ _ | refine blk_drew ?_ | refine blk_alloc ?_ _)); exact BK155.out) hb)
   have n3_ := Aside0.mk (below_step (by repeat (first | (with_reducible first | exact HB.out | apply below_alloc | apply pw_below_drewN | apply below_drew1 | refine below_set ?_ GE155.out) | exact HB.out)) hb)
   have z_HO158 := fun (h0_ : b 0 = true) => (show Kd.R (Kd.int .i64) 3 w9 w.heap.size (fun _ => True) v157 y156 from by first | exact (Kd.R_elder' (by (with_reducible repeat (first | apply Kd.R_alloc | apply Kd.R_drewN | apply Kd.R_drew)); exact (Q_HO158 h0_)) (Kd.R_base ho0) hb) | exact Kd.R_mono (Kd.R_elder' (by (with_reducible repeat (first | apply Kd.R_alloc | apply Kd.R_drewN | apply Kd.R_drew)); exact (Q_HO158 h0_)) (Kd.R_base ho0) hb) (fun _ h_ => by first | trivial | exact h_ | exact h_.1))
   clear HO161
   clear BK155
   clear HB
   have HO161 := n0_
   have HO164 := n1_
   have BK155 := n2_
   have HB := n3_
   clear n0_ n1_ n2_ n3_
   (try clear hb2)
   (try clear hk)
   (try clear hi)
   refine hK.out _ _ ⟨v157, v160, v163, m6_, m7_, m8_, (by rw [ha.out]; exact putSel_upk 4 hb_ rfl rfl rfl), (by (with_reducible repeat (first | refine blk_drewN ?_ _ | refine blk_drew ?_ | refine blk_alloc ?_ _)); exact BK155.out), (by repeat (first | (with_reducible first | exact HB.out | apply below_alloc | apply pw_below_drewN | apply below_drew1 | refine below_set ?_ GE155.out) | exact HB.out)), z_HO158, fun _ => Kd.N_mono HO161.out (fun k_ hk_ => ⟨hk_.1.1, fun _ => hk_.2, hk_.1.2.2⟩), fun _ => Kd.R_mono (Kd.R_tight rfl HO164.out) (fun k_ hk_ h0_ e_ => by have h1_ := Kd.R_base ho0 k_ hk_.symm; have h2_ := Kd.R_lt (Q_HO158 h0_) k_ e_.symm; omega), fun h0_ => absurd ((hoff 6 (by kernel_rfl)).symm.trans h0_) (by decide), fun h0_ => absurd ((hoff 7 (by kernel_rfl)).symm.trans h0_) (by decide), fun h0_ => absurd ((hoff 8 (by kernel_rfl)).symm.trans h0_) (by decide)⟩
  refine steps_cons ?_ ?_
  ·rintro b a w' ⟨v157, v160, v163, m6_, m7_, m8_, ha, Q_BK155, Q_HB, Q_HO158, Q_HO161, Q_HO164, Q_X6_, Q_X7_, Q_X8_⟩ hb_ hon hoff
   refine ⟨_, rfl, fun K hK => ?_⟩
   have e11 : a.tmps[11]? = some (v157) := by rw [ha]; exact putSel_on (e := (0, 11, v157)) 0 rfl rfl (hon 0 (by kernel_rfl)) rfl
   replace ha := Aside0.mk ha
   have BK155 := Aside0.mk Q_BK155
   have HB := Aside0.mk Q_HB
   have HO158 := Aside0.mk (Q_HO158 (hon 0 (by kernel_rfl)))
   have HO161 := Aside0.mk (Q_HO161 (hon 3 (by kernel_rfl)))
   have HO164 := Aside0.mk (Q_HO164 (hon 5 (by kernel_rfl)))
   refine value_ (w1 := w') (v := v157) (by rfl) rfl ?_ ?_
   ·go_simp
    (try simp only [i64_w])
    try rfl
   refine hK.out _ _ ⟨v157, v160, v163, (v157), m7_, m8_, (by rw [ha.out]; exact putSel_upk 5 hb_ rfl rfl rfl), Q_BK155, Q_HB, Q_HO158, Q_HO161, Q_HO164, fun _ => rfl, fun h0_ => absurd ((hoff 7 (by kernel_rfl)).symm.trans h0_) (by decide), fun h0_ => absurd ((hoff 8 (by kernel_rfl)).symm.trans h0_) (by decide)⟩
  refine steps_cons ?_ ?_
  ·rintro b a w' ⟨v157, v160, v163, m6_, m7_, m8_, ha, Q_BK155, Q_HB, Q_HO158, Q_HO161, Q_HO164, Q_X6_, Q_X7_, Q_X8_⟩ hb_ hon hoff
   refine ⟨_, rfl, fun K hK => ?_⟩
   have e14 : a.tmps[14]? = some (v160) := by rw [ha]; exact putSel_on (e := (3, 14, v160)) 2 rfl rfl (hon 3 (by kernel_rfl)) rfl
   replace ha := Aside0.mk ha
   have BK155 := Aside0.mk Q_BK155
   have HB := Aside0.mk Q_HB
   have HO158 := Aside0.mk (Q_HO158 (hon 0 (by kernel_rfl)))
   have HO161 := Aside0.mk (Q_HO161 (hon 3 (by kernel_rfl)))
   have HO164 := Aside0.mk (Q_HO164 (hon 5 (by kernel_rfl)))
   refine value_ (w1 := w') (v := v160) (by rfl) rfl ?_ ?_
   ·go_simp
    (try simp only [i64_w])
    try rfl
   refine hK.out _ _ ⟨v157, v160, v163, m6_, (v160), m8_, (by rw [ha.out]; exact putSel_upk 6 hb_ rfl rfl rfl), Q_BK155, Q_HB, Q_HO158, Q_HO161, Q_HO164, Q_X6_, fun _ => rfl, fun h0_ => absurd ((hoff 8 (by kernel_rfl)).symm.trans h0_) (by decide)⟩
  refine steps_cons ?_ ?_
  ·rintro b a w' ⟨v157, v160, v163, m6_, m7_, m8_, ha, Q_BK155, Q_HB, Q_HO158, Q_HO161, Q_HO164, Q_X6_, Q_X7_, Q_X8_⟩ hb_ hon hoff
   refine ⟨_, rfl, fun K hK => ?_⟩
   have e16 : a.tmps[16]? = some (v163) := by rw [ha]; exact putSel_on (e := (5, 16, v163)) 4 rfl rfl (hon 5 (by kernel_rfl)) rfl
   replace ha := Aside0.mk ha
   have BK155 := Aside0.mk Q_BK155
   have HB := Aside0.mk Q_HB
   have HO158 := Aside0.mk (Q_HO158 (hon 0 (by kernel_rfl)))
   have HO161 := Aside0.mk (Q_HO161 (hon 3 (by kernel_rfl)))
   have HO164 := Aside0.mk (Q_HO164 (hon 5 (by kernel_rfl)))
   refine value_ (w1 := w') (v := v163) (by rfl) rfl ?_ ?_
   ·go_simp
    (try simp only [i64_w])
    try rfl
   refine hK.out _ _ ⟨v157, v160, v163, m6_, m7_, (v163), (by rw [ha.out]; exact putSel_upk 7 hb_ rfl rfl rfl), Q_BK155, Q_HB, Q_HO158, Q_HO161, Q_HO164, Q_X6_, Q_X7_, fun _ => rfl⟩
  exact steps_nil
 rintro b a w11 hall ⟨v157, v160, v163, m6_, m7_, m8_, ha, Q_BK155, Q_HB, Q_HO158, Q_HO161, Q_HO164, Q_X6_, Q_X7_, Q_X8_⟩
 clear BK155 HB
 have hb0_ := hall 0 (by kernel_rfl)
 have hb1_ := hall 1 (by kernel_rfl)
 have hb3_ := hall 3 (by kernel_rfl)
 have hb4_ := hall 4 (by kernel_rfl)
 have hb5_ := hall 5 (by kernel_rfl)
 have hb6_ := hall 6 (by kernel_rfl)
 have hb7_ := hall 7 (by kernel_rfl)
 have hb8_ := hall 8 (by kernel_rfl)
 subst ha
 obtain rfl := (Q_X6_ hb6_).symm
 obtain rfl := (Q_X7_ hb7_).symm
 obtain rfl := (Q_X8_ hb8_).symm
 simp only [putSel, hb0_, hb1_, hb3_, hb4_, hb5_, hb6_, hb7_, hb8_, if_true, Act.put, List.setIfInBounds_toArray, List.set_cons_zero, List.set_cons_succ]
 have BK155 := Aside0.mk Q_BK155
 clear Q_BK155
 have HB := Aside0.mk Q_HB
 clear Q_HB
 have HO164 := Aside0.mk (show Kd.R (Kd.int .i64) 3 w11 w.heap.size (fun k_ => some k_ ≠ (v157 : Value).ownBlock) v163 t162 from Kd.R_mono (Q_HO164 hb5_) (fun k_ hk_ => hk_ hb0_))
 clear Q_HO164
 have HO158 := Aside0.mk (show Kd.R (Kd.int .i64) 3 w11 w.heap.size (fun k_ => some k_ ≠ (v163 : Value).ownBlock) v157 y156 from Kd.R_mono (Kd.R_tight rfl (Q_HO158 hb0_)) (fun k_ hk_ e_ => HO164.out.1 k_ e_.symm hk_))
 clear Q_HO158
 have HO161 := Aside0.mk (show Kd.N (Kd.slice 4 Kd.bool) 60 w11 w.heap.size (fun k_ => some k_ ≠ (v157 : Value).ownBlock ∧ some k_ ≠ (v163 : Value).ownBlock ∧ k_ ≠ gb155) v160 t159 from Kd.N_mono (Q_HO161 hb3_) (fun k_ hk_ => ⟨hk_.1 hb0_, hk_.2.1 hb5_, hk_.2.2⟩))
 clear Q_HO161
 clear hall hb0_ hb1_ hb3_ hb4_ hb5_ hb6_ hb7_ hb8_
 try go_wp2
 go_loopg [5, 8] k (fun kq v5 v8 w' => ∃ (x5_1 : List Int) (x8_1 : Int), v8 = .int .i64 x8_1 ∧ Aside0 (spec_l4Waits.l0 kq a1 x5_1 t159 t162 x8_1 = some r) ∧ Aside0 (kq ≤ k) ∧ Aside0 (Kd.R (Kd.int .i64) 3 w' w.heap.size (fun k_ => some k_ ≠ (v163 : Value).ownBlock) v5 x5_1) ∧ Aside0 (Kd.N (Kd.slice 4 Kd.bool) 60 w' w.heap.size (fun k_ => some k_ ≠ (v5 : Value).ownBlock ∧ some k_ ≠ (v163 : Value).ownBlock ∧ k_ ≠ gb155) v160 t159) ∧ Aside0 (Kd.R (Kd.int .i64) 3 w' w.heap.size (fun k_ => some k_ ≠ (v5 : Value).ownBlock) v163 t162) ∧ Aside0 (w'.heap[gb155]? = some (.cells #[.int .i64 a0_0, .int .i64 a0_1, .int .i64 a0_2, .int .i64 a0_3] 27 (0, 0))) ∧ Aside0 (Below w.heap.size w w'))
 case atStart => exact ⟨(y156), (1), (by first | rfl | (simp; done) | (simp [*]; done)), H', ⟨Nat.le_refl _⟩, ⟨by (with_reducible repeat (first | apply Kd.R_alloc | apply Kd.R_drewN | apply Kd.R_drew)); exact HO158.out⟩, ⟨by (with_reducible repeat (first | apply Kd.N_alloc | apply Kd.N_drewN | apply Kd.N_drew)); exact HO161.out⟩, ⟨by (with_reducible repeat (first | apply Kd.R_alloc | apply Kd.R_drewN | apply Kd.R_drew)); exact HO164.out⟩, ⟨by (with_reducible repeat (first | refine blk_drewN ?_ _ | refine blk_drew ?_ | refine blk_alloc ?_ _)); exact BK155.out⟩, ⟨by repeat (first | (with_reducible first | exact HB.out | apply below_alloc | apply pw_below_drewN | apply below_drew1 | refine below_set ?_ GE155.out) | exact HB.out)⟩⟩
 case round =>
  clear H'
  try clear c1
  try clear c2
  try clear p2
  try clear c3
  try clear c4
  try clear c5
  obtain ⟨x5_1, x8_1, rfl, HA, HK1, HO_5, HO_6, HO_7, BK155, HB⟩ := hrel
  cases gk with
  | zero => exact absurd HA.out (by simp [spec_l4Waits.l0])
  | succ k1 =>
   have H := HA.out
   clear HA
   simp only [spec_l4Waits.l0] at H
   by_cases c12 : x8_1 ≤ a1
   ·rw [if_pos c12] at H
    have c12b0 : decide (x8_1 ≤ a1) = true := decide_eq_true c12
    clear c12
    have H' := Aside0.mk H
    clear H
    go_wp2
    go_loopg [9, 10] k1 (fun kq v9 v10 w' => ∃ (x9_2 : Int) (x10_2 : Int), v9 = .int .i64 x9_2 ∧ v10 = .int .i64 x10_2 ∧ Aside0 (spec_l4Waits.l1 kq a1 x5_1 t159 t162 x8_1 x9_2 x10_2 = some r) ∧ Aside0 (kq ≤ k1) ∧ Aside0 (Kd.R (Kd.int .i64) 3 w' w.heap.size (fun k_ => some k_ ≠ (v163 : Value).ownBlock) u5 x5_1) ∧ Aside0 (Kd.N (Kd.slice 4 Kd.bool) 60 w' w.heap.size (fun k_ => some k_ ≠ (u5 : Value).ownBlock ∧ some k_ ≠ (v163 : Value).ownBlock ∧ k_ ≠ gb155) v160 t159) ∧ Aside0 (Kd.R (Kd.int .i64) 3 w' w.heap.size (fun k_ => some k_ ≠ (u5 : Value).ownBlock) v163 t162) ∧ Aside0 (w'.heap[gb155]? = some (.cells #[.int .i64 a0_0, .int .i64 a0_1, .int .i64 a0_2, .int .i64 a0_3] 27 (0, 0))) ∧ Aside0 (Below w.heap.size w w'))
    case atStart => exact ⟨((-1)), (0), (by first | rfl | (simp; done) | (simp [*]; done)), (by first | rfl | (simp; done) | (simp [*]; done)), H', ⟨Nat.le_refl _⟩, ⟨by (with_reducible repeat (first | apply Kd.R_alloc | apply Kd.R_drewN | apply Kd.R_drew)); exact HO_5.out⟩, ⟨by (with_reducible repeat (first | apply Kd.N_alloc | apply Kd.N_drewN | apply Kd.N_drew)); exact HO_6.out⟩, ⟨by (with_reducible repeat (first | apply Kd.R_alloc | apply Kd.R_drewN | apply Kd.R_drew)); exact HO_7.out⟩, ⟨by (with_reducible repeat (first | refine blk_drewN ?_ _ | refine blk_drew ?_ | refine blk_alloc ?_ _)); exact BK155.out⟩, ⟨by repeat (first | (with_reducible first | exact HB.out | apply below_alloc | apply pw_below_drewN | apply below_drew1 | refine below_set ?_ GE155.out) | exact HB.out)⟩⟩
    case round =>
     clear H'
     try clear c1
     try clear c2
     try clear p2
     try clear c3
     try clear c4
     try clear c5
     try clear c12
     try clear c12b0
     try clear p2
     obtain ⟨x9_2, x10_2, rfl, rfl, HA, HK2, HO_5, HO_6, HO_7, BK155, HB⟩ := hrel
     cases gk with
     | zero => exact absurd HA.out (by simp [spec_l4Waits.l1])
     | succ k2 =>
      have H := HA.out
      clear HA
      simp only [spec_l4Waits.l1] at H
      by_cases c13 : x10_2 < (t162.length : Int)
      ·rw [if_pos c13] at H
       have c13b0 : decide (x10_2 < (t162.length : Int)) = true := decide_eq_true c13
       clear c13
       by_cases c14 : 0 ≤ x8_1
       ·rw [if_pos c14] at H
        have c14b0 : decide (0 ≤ x8_1) = true := decide_eq_true c14
        clear c14
        by_cases c15 : x8_1 < (t159.length : Int)
        ·rw [if_pos c15] at H
         have c15b0 : decide (x8_1 < (t159.length : Int)) = true := decide_eq_true c15
         clear c15
         by_cases c16 : 0 ≤ x10_2
         ·rw [if_pos c16] at H
          have c16b0 : decide (0 ≤ x10_2) = true := decide_eq_true c16
          clear c16
          by_cases c17 : x10_2 < ((rd_L6 t159 x8_1).length : Int)
          ·rw [if_pos c17] at H
           have c17b0 : decide (x10_2 < ((rd_L6 t159 x8_1).length : Int)) = true := decide_eq_true c17
           clear c17
           obtain ⟨bq18, hbq18⟩ : ∃ b_ : Bool, b_ = (rdOf false (rd_L6 t159 x8_1) x10_2) := ⟨_, rfl⟩
           replace H : (if bq18 = true then (if (rd t162 x10_2) ≥ 0 then (if x9_2 < 0 then (spec_l4Waits.l1 k2 a1 x5_1 t159 t162 x8_1 (rd t162 x10_2) (wrap64 (x10_2 + 1))) else (if (rd t162 x10_2) < x9_2 then (spec_l4Waits.l1 k2 a1 x5_1 t159 t162 x8_1 (rd t162 x10_2) (wrap64 (x10_2 + 1))) else (spec_l4Waits.l1 k2 a1 x5_1 t159 t162 x8_1 x9_2 (wrap64 (x10_2 + 1))))) else (spec_l4Waits.l1 k2 a1 x5_1 t159 t162 x8_1 x9_2 (wrap64 (x10_2 + 1)))) else (spec_l4Waits.l1 k2 a1 x5_1 t159 t162 x8_1 x9_2 (wrap64 (x10_2 + 1)))) = some r := by rw [← hbq18] at H; exact H
           have Nbq18 := Aside0.mk hbq18
           clear hbq18
           by_cases c19 : bq18 = true
           ·subst c19
            have H1 : (if (rd t162 x10_2) ≥ 0 then (if x9_2 < 0 then (spec_l4Waits.l1 k2 a1 x5_1 t159 t162 x8_1 (rd t162 x10_2) (wrap64 (x10_2 + 1))) else (if (rd t162 x10_2) < x9_2 then (spec_l4Waits.l1 k2 a1 x5_1 t159 t162 x8_1 (rd t162 x10_2) (wrap64 (x10_2 + 1))) else (spec_l4Waits.l1 k2 a1 x5_1 t159 t162 x8_1 x9_2 (wrap64 (x10_2 + 1))))) else (spec_l4Waits.l1 k2 a1 x5_1 t159 t162 x8_1 x9_2 (wrap64 (x10_2 + 1)))) = some r := by rw [if_pos rfl] at H; exact H
            clear H
            have H := H1
            clear H1
            by_cases c20 : (rd t162 x10_2) ≥ 0
            ·rw [if_pos c20] at H
             have c20b0 : decide (0 ≤ (rd t162 x10_2)) = true := decide_eq_true c20
             clear c20
             by_cases c21 : x9_2 < 0
             ·rw [if_pos c21] at H
              have c21b0 : decide (x9_2 < 0) = true := decide_eq_true c21
              clear c21
              have H' := Aside0.mk H
              clear H
              obtain ⟨Ao22, co22, eo22⟩ := Kd.R_slice HO_7.out
              subst eo22
              obtain ⟨Ao23, co23, eo23⟩ := Kd.N_slice HO_6.out
              subst eo23
              have p165 : 0 ≤ (x8_1 : Int) := of_decide_eq_true (by first | (with_reducible assumption) | assumption)
              have q165 : x8_1 < (t159.length : Int) := of_decide_eq_true (by first | (with_reducible assumption) | assumption)
              obtain ⟨ad165, A165_0, c165_0, e165, hx165_0, hl165_0, hi165_0⟩ := at_L6 (Kd.N_reads' HO_6.out).2.2 x8_1 p165 q165
              cases e165
              obtain ⟨ce165, hce165, hMe165, hcc165⟩ := Kd.N_get HO_6.out [] x8_1 p165 (by first | exact q165 | exact of_decide_eq_true (by first | (with_reducible assumption) | assumption) | (have e_ := (Kd.N_reads' HO_6.out).1; omega))
              obtain ⟨ua165_0, uc165_0, rfl, ul165_0, ge165_0⟩ := Kd.FK_slice_open hMe165
              have hv165_0 := hcc165 0 _ rfl
              rw [Nat.add_zero, show ((Kd.slice 4 Kd.bool)).sz = 1 from rfl, Nat.mul_one] at hv165_0
              replace hv165_0 := Option.some.inj (hv165_0.symm.trans hx165_0)
              injection hv165_0 with hva_ hvn_ hvc_
              rw [hva_] at ge165_0
              rw [hvc_] at ul165_0
              have HL165_0 := Aside0.mk (show Kd.V Kd.bool 4 _ w.heap.size _ _ (rd_L6 t159 x8_1) from Kd.V_mk ul165_0 ge165_0)
              clear hva_ hvn_ hvc_ ge165_0 ul165_0
              clear hcc165 hce165
              have HR165_0 := Aside0.mk hi165_0
              have HC165_0 := Aside0.mk hl165_0
              clear hi165_0 hl165_0
              replace p165 := eq_true p165
              replace q165 := eq_true q165
              have p166 : 0 ≤ (x10_2 : Int) := of_decide_eq_true (by first | (with_reducible assumption) | assumption)
              have q166 : x10_2 < ((rd_L6 t159 x8_1).length : Int) := of_decide_eq_true (by first | (with_reducible assumption) | assumption)
              obtain ⟨ad166, e166, hx166_0⟩ := Kd.at_bool (by repeat (first | (with_reducible exact HR165_0.out) | (with_reducible refine Kd.C_alloc ?_ _) | (with_reducible refine Kd.C_drewN ?_ _) | (with_reducible refine Kd.C_drew ?_) | exact HR165_0.out)) x10_2 p166 q166
              (try rw [← Nbq18.out] at hx166_0)
              cases e166
              replace p166 := eq_true p166
              replace q166 := eq_true q166
              have p167 : 0 ≤ (x10_2 : Int) := of_decide_eq_true (by first | (with_reducible assumption) | assumption)
              have q167 : x10_2 < (t162.length : Int) := of_decide_eq_true (by first | (with_reducible assumption) | assumption)
              obtain ⟨ad167, e167, hx167_0⟩ := Kd.at_int (Kd.R_reads' HO_7.out).2.2 x10_2 p167 q167
              cases e167
              replace p167 := eq_true p167
              replace q167 := eq_true q167
              have p168 : 0 ≤ (x10_2 : Int) := of_decide_eq_true (by first | (with_reducible assumption) | assumption)
              have q168 : x10_2 < (t162.length : Int) := of_decide_eq_true (by first | (with_reducible assumption) | assumption)
              obtain ⟨ad168, e168, hx168_0⟩ := Kd.at_int (Kd.R_reads' HO_7.out).2.2 x10_2 p168 q168
              obtain rfl : ad167 = ad168 := (by injection e168)
              replace p168 := eq_true p168
              replace q168 := eq_true q168
              go_wp2
              go_roundg k2
              case measure => have := HK1.out; have := HK2.out; omega
              case rel => exact ⟨(rd t162 x10_2), (wrap64 (x10_2 + 1)), (by first | rfl | (simp; done) | (simp [*]; done)), (by first | rfl | (simp; done) | (simp [*]; done)), H', ⟨by have := HK1.out; have := HK2.out; omega⟩, ⟨by (with_reducible repeat (first | apply Kd.R_alloc | apply Kd.R_drewN | apply Kd.R_drew)); exact HO_5.out⟩, ⟨by (with_reducible repeat (first | apply Kd.N_alloc | apply Kd.N_drewN | apply Kd.N_drew)); exact HO_6.out⟩, ⟨by (with_reducible repeat (first | apply Kd.R_alloc | apply Kd.R_drewN | apply Kd.R_drew)); exact HO_7.out⟩, ⟨by (with_reducible repeat (first | refine blk_drewN ?_ _ | refine blk_drew ?_ | refine blk_alloc ?_ _)); exact BK155.out⟩, ⟨by repeat (first | (with_reducible first | exact HB.out | apply below_alloc | apply pw_below_drewN | apply below_drew1 | refine below_set ?_ GE155.out) | exact HB.out)⟩⟩
             ·rw [if_neg c21] at H
              have c21b0 : decide (x9_2 < 0) = false := decide_eq_false c21
              clear c21
              by_cases c24 : (rd t162 x10_2) < x9_2
              ·rw [if_pos c24] at H
               have c24b0 : decide ((rd t162 x10_2) < x9_2) = true := decide_eq_true c24
               clear c24
               have H' := Aside0.mk H
               clear H
               obtain ⟨Ao25, co25, eo25⟩ := Kd.R_slice HO_7.out
               subst eo25
               obtain ⟨Ao26, co26, eo26⟩ := Kd.N_slice HO_6.out
               subst eo26
               have p165 : 0 ≤ (x8_1 : Int) := of_decide_eq_true (by first | (with_reducible assumption) | assumption)
               have q165 : x8_1 < (t159.length : Int) := of_decide_eq_true (by first | (with_reducible assumption) | assumption)
               obtain ⟨ad165, A165_0, c165_0, e165, hx165_0, hl165_0, hi165_0⟩ := at_L6 (Kd.N_reads' HO_6.out).2.2 x8_1 p165 q165
               cases e165
               obtain ⟨ce165, hce165, hMe165, hcc165⟩ := Kd.N_get HO_6.out [] x8_1 p165 (by first | exact q165 | exact of_decide_eq_true (by first | (with_reducible assumption) | assumption) | (have e_ := (Kd.N_reads' HO_6.out).1; omega))
               obtain ⟨ua165_0, uc165_0, rfl, ul165_0, ge165_0⟩ := Kd.FK_slice_open hMe165
               have hv165_0 := hcc165 0 _ rfl
               rw [Nat.add_zero, show ((Kd.slice 4 Kd.bool)).sz = 1 from rfl, Nat.mul_one] at hv165_0
               replace hv165_0 := Option.some.inj (hv165_0.symm.trans hx165_0)
               injection hv165_0 with hva_ hvn_ hvc_
               rw [hva_] at ge165_0
               rw [hvc_] at ul165_0
               have HL165_0 := Aside0.mk (show Kd.V Kd.bool 4 _ w.heap.size _ _ (rd_L6 t159 x8_1) from Kd.V_mk ul165_0 ge165_0)
               clear hva_ hvn_ hvc_ ge165_0 ul165_0
               clear hcc165 hce165
               have HR165_0 := Aside0.mk hi165_0
               have HC165_0 := Aside0.mk hl165_0
               clear hi165_0 hl165_0
               replace p165 := eq_true p165
               replace q165 := eq_true q165
               have p166 : 0 ≤ (x10_2 : Int) := of_decide_eq_true (by first | (with_reducible assumption) | assumption)
               have q166 : x10_2 < ((rd_L6 t159 x8_1).length : Int) := of_decide_eq_true (by first | (with_reducible assumption) | assumption)
               obtain ⟨ad166, e166, hx166_0⟩ := Kd.at_bool (by repeat (first | (with_reducible exact HR165_0.out) | (with_reducible refine Kd.C_alloc ?_ _) | (with_reducible refine Kd.C_drewN ?_ _) | (with_reducible refine Kd.C_drew ?_) | exact HR165_0.out)) x10_2 p166 q166
               (try rw [← Nbq18.out] at hx166_0)
               cases e166
               replace p166 := eq_true p166
               replace q166 := eq_true q166
               have p167 : 0 ≤ (x10_2 : Int) := of_decide_eq_true (by first | (with_reducible assumption) | assumption)
               have q167 : x10_2 < (t162.length : Int) := of_decide_eq_true (by first | (with_reducible assumption) | assumption)
               obtain ⟨ad167, e167, hx167_0⟩ := Kd.at_int (Kd.R_reads' HO_7.out).2.2 x10_2 p167 q167
               cases e167
               replace p167 := eq_true p167
               replace q167 := eq_true q167
               have p169 : 0 ≤ (x10_2 : Int) := of_decide_eq_true (by first | (with_reducible assumption) | assumption)
               have q169 : x10_2 < (t162.length : Int) := of_decide_eq_true (by first | (with_reducible assumption) | assumption)
               obtain ⟨ad169, e169, hx169_0⟩ := Kd.at_int (Kd.R_reads' HO_7.out).2.2 x10_2 p169 q169
               obtain rfl : ad167 = ad169 := (by injection e169)
               replace p169 := eq_true p169
               replace q169 := eq_true q169
               have p170 : 0 ≤ (x10_2 : Int) := of_decide_eq_true (by first | (with_reducible assumption) | assumption)
               have q170 : x10_2 < (t162.length : Int) := of_decide_eq_true (by first | (with_reducible assumption) | assumption)
               obtain ⟨ad170, e170, hx170_0⟩ := Kd.at_int (Kd.R_reads' HO_7.out).2.2 x10_2 p170 q170
               obtain rfl : ad167 = ad170 := (by injection e170)
               replace p170 := eq_true p170
               replace q170 := eq_true q170
               go_wp2
               go_roundg k2
               case measure => have := HK1.out; have := HK2.out; omega
               case rel => exact ⟨(rd t162 x10_2), (wrap64 (x10_2 + 1)), (by first | rfl | (simp; done) | (simp [*]; done)), (by first | rfl | (simp; done) | (simp [*]; done)), H', ⟨by have := HK1.out; have := HK2.out; omega⟩, ⟨by (with_reducible repeat (first | apply Kd.R_alloc | apply Kd.R_drewN | apply Kd.R_drew)); exact HO_5.out⟩, ⟨by (with_reducible repeat (first | apply Kd.N_alloc | apply Kd.N_drewN | apply Kd.N_drew)); exact HO_6.out⟩, ⟨by (with_reducible repeat (first | apply Kd.R_alloc | apply Kd.R_drewN | apply Kd.R_drew)); exact HO_7.out⟩, ⟨by (with_reducible repeat (first | refine blk_drewN ?_ _ | refine blk_drew ?_ | refine blk_alloc ?_ _)); exact BK155.out⟩, ⟨by repeat (first | (with_reducible first | exact HB.out | apply below_alloc | apply pw_below_drewN | apply below_drew1 | refine below_set ?_ GE155.out) | exact HB.out)⟩⟩
              ·rw [if_neg c24] at H
               have c24b0 : decide ((rd t162 x10_2) < x9_2) = false := decide_eq_false c24
               clear c24
               have H' := Aside0.mk H
               clear H
               obtain ⟨Ao27, co27, eo27⟩ := Kd.R_slice HO_7.out
               subst eo27
               obtain ⟨Ao28, co28, eo28⟩ := Kd.N_slice HO_6.out
               subst eo28
               have p165 : 0 ≤ (x8_1 : Int) := of_decide_eq_true (by first | (with_reducible assumption) | assumption)
               have q165 : x8_1 < (t159.length : Int) := of_decide_eq_true (by first | (with_reducible assumption) | assumption)
               obtain ⟨ad165, A165_0, c165_0, e165, hx165_0, hl165_0, hi165_0⟩ := at_L6 (Kd.N_reads' HO_6.out).2.2 x8_1 p165 q165
               cases e165
               obtain ⟨ce165, hce165, hMe165, hcc165⟩ := Kd.N_get HO_6.out [] x8_1 p165 (by first | exact q165 | exact of_decide_eq_true (by first | (with_reducible assumption) | assumption) | (have e_ := (Kd.N_reads' HO_6.out).1; omega))
               obtain ⟨ua165_0, uc165_0, rfl, ul165_0, ge165_0⟩ := Kd.FK_slice_open hMe165
               have hv165_0 := hcc165 0 _ rfl
               rw [Nat.add_zero, show ((Kd.slice 4 Kd.bool)).sz = 1 from rfl, Nat.mul_one] at hv165_0
               replace hv165_0 := Option.some.inj (hv165_0.symm.trans hx165_0)
               injection hv165_0 with hva_ hvn_ hvc_
               rw [hva_] at ge165_0
               rw [hvc_] at ul165_0
               have HL165_0 := Aside0.mk (show Kd.V Kd.bool 4 _ w.heap.size _ _ (rd_L6 t159 x8_1) from Kd.V_mk ul165_0 ge165_0)
               clear hva_ hvn_ hvc_ ge165_0 ul165_0
               clear hcc165 hce165
               have HR165_0 := Aside0.mk hi165_0
               have HC165_0 := Aside0.mk hl165_0
               clear hi165_0 hl165_0
               replace p165 := eq_true p165
               replace q165 := eq_true q165
               have p166 : 0 ≤ (x10_2 : Int) := of_decide_eq_true (by first | (with_reducible assumption) | assumption)
               have q166 : x10_2 < ((rd_L6 t159 x8_1).length : Int) := of_decide_eq_true (by first | (with_reducible assumption) | assumption)
               obtain ⟨ad166, e166, hx166_0⟩ := Kd.at_bool (by repeat (first | (with_reducible exact HR165_0.out) | (with_reducible refine Kd.C_alloc ?_ _) | (with_reducible refine Kd.C_drewN ?_ _) | (with_reducible refine Kd.C_drew ?_) | exact HR165_0.out)) x10_2 p166 q166
               (try rw [← Nbq18.out] at hx166_0)
               cases e166
               replace p166 := eq_true p166
               replace q166 := eq_true q166
               have p167 : 0 ≤ (x10_2 : Int) := of_decide_eq_true (by first | (with_reducible assumption) | assumption)
               have q167 : x10_2 < (t162.length : Int) := of_decide_eq_true (by first | (with_reducible assumption) | assumption)
               obtain ⟨ad167, e167, hx167_0⟩ := Kd.at_int (Kd.R_reads' HO_7.out).2.2 x10_2 p167 q167
               cases e167
               replace p167 := eq_true p167
               replace q167 := eq_true q167
               have p169 : 0 ≤ (x10_2 : Int) := of_decide_eq_true (by first | (with_reducible assumption) | assumption)
               have q169 : x10_2 < (t162.length : Int) := of_decide_eq_true (by first | (with_reducible assumption) | assumption)
               obtain ⟨ad169, e169, hx169_0⟩ := Kd.at_int (Kd.R_reads' HO_7.out).2.2 x10_2 p169 q169
               obtain rfl : ad167 = ad169 := (by injection e169)
               replace p169 := eq_true p169
               replace q169 := eq_true q169
               go_wp2
               go_roundg k2
               case measure => have := HK1.out; have := HK2.out; omega
               case rel => exact ⟨(x9_2), (wrap64 (x10_2 + 1)), (by first | rfl | (simp; done) | (simp [*]; done)), (by first | rfl | (simp; done) | (simp [*]; done)), H', ⟨by have := HK1.out; have := HK2.out; omega⟩, ⟨by (with_reducible repeat (first | apply Kd.R_alloc | apply Kd.R_drewN | apply Kd.R_drew)); exact HO_5.out⟩, ⟨by (with_reducible repeat (first | apply Kd.N_alloc | apply Kd.N_drewN | apply Kd.N_drew)); exact HO_6.out⟩, ⟨by (with_reducible repeat (first | apply Kd.R_alloc | apply Kd.R_drewN | apply Kd.R_drew)); exact HO_7.out⟩, ⟨by (with_reducible repeat (first | refine blk_drewN ?_ _ | refine blk_drew ?_ | refine blk_alloc ?_ _)); exact BK155.out⟩, ⟨by repeat (first | (with_reducible first | exact HB.out | apply below_alloc | apply pw_below_drewN | apply below_drew1 | refine below_set ?_ GE155.out) | exact HB.out)⟩⟩
            ·rw [if_neg c20] at H
             have c20b0 : decide (0 ≤ (rd t162 x10_2)) = false := decide_eq_false c20
             clear c20
             have H' := Aside0.mk H
             clear H
             obtain ⟨Ao29, co29, eo29⟩ := Kd.R_slice HO_7.out
             subst eo29
             obtain ⟨Ao30, co30, eo30⟩ := Kd.N_slice HO_6.out
             subst eo30
             have p165 : 0 ≤ (x8_1 : Int) := of_decide_eq_true (by first | (with_reducible assumption) | assumption)
             have q165 : x8_1 < (t159.length : Int) := of_decide_eq_true (by first | (with_reducible assumption) | assumption)
             obtain ⟨ad165, A165_0, c165_0, e165, hx165_0, hl165_0, hi165_0⟩ := at_L6 (Kd.N_reads' HO_6.out).2.2 x8_1 p165 q165
             cases e165
             obtain ⟨ce165, hce165, hMe165, hcc165⟩ := Kd.N_get HO_6.out [] x8_1 p165 (by first | exact q165 | exact of_decide_eq_true (by first | (with_reducible assumption) | assumption) | (have e_ := (Kd.N_reads' HO_6.out).1; omega))
             obtain ⟨ua165_0, uc165_0, rfl, ul165_0, ge165_0⟩ := Kd.FK_slice_open hMe165
             have hv165_0 := hcc165 0 _ rfl
             rw [Nat.add_zero, show ((Kd.slice 4 Kd.bool)).sz = 1 from rfl, Nat.mul_one] at hv165_0
             replace hv165_0 := Option.some.inj (hv165_0.symm.trans hx165_0)
             injection hv165_0 with hva_ hvn_ hvc_
             rw [hva_] at ge165_0
             rw [hvc_] at ul165_0
             have HL165_0 := Aside0.mk (show Kd.V Kd.bool 4 _ w.heap.size _ _ (rd_L6 t159 x8_1) from Kd.V_mk ul165_0 ge165_0)
             clear hva_ hvn_ hvc_ ge165_0 ul165_0
             clear hcc165 hce165
             have HR165_0 := Aside0.mk hi165_0
             have HC165_0 := Aside0.mk hl165_0
             clear hi165_0 hl165_0
             replace p165 := eq_true p165
             replace q165 := eq_true q165
             have p166 : 0 ≤ (x10_2 : Int) := of_decide_eq_true (by first | (with_reducible assumption) | assumption)
             have q166 : x10_2 < ((rd_L6 t159 x8_1).length : Int) := of_decide_eq_true (by first | (with_reducible assumption) | assumption)
             obtain ⟨ad166, e166, hx166_0⟩ := Kd.at_bool (by repeat (first | (with_reducible exact HR165_0.out) | (with_reducible refine Kd.C_alloc ?_ _) | (with_reducible refine Kd.C_drewN ?_ _) | (with_reducible refine Kd.C_drew ?_) | exact HR165_0.out)) x10_2 p166 q166
             (try rw [← Nbq18.out] at hx166_0)
             cases e166
             replace p166 := eq_true p166
             replace q166 := eq_true q166
             have p167 : 0 ≤ (x10_2 : Int) := of_decide_eq_true (by first | (with_reducible assumption) | assumption)
             have q167 : x10_2 < (t162.length : Int) := of_decide_eq_true (by first | (with_reducible assumption) | assumption)
             obtain ⟨ad167, e167, hx167_0⟩ := Kd.at_int (Kd.R_reads' HO_7.out).2.2 x10_2 p167 q167
             cases e167
             replace p167 := eq_true p167
             replace q167 := eq_true q167
             go_wp2
             go_roundg k2
             case measure => have := HK1.out; have := HK2.out; omega
             case rel => exact ⟨(x9_2), (wrap64 (x10_2 + 1)), (by first | rfl | (simp; done) | (simp [*]; done)), (by first | rfl | (simp; done) | (simp [*]; done)), H', ⟨by have := HK1.out; have := HK2.out; omega⟩, ⟨by (with_reducible repeat (first | apply Kd.R_alloc | apply Kd.R_drewN | apply Kd.R_drew)); exact HO_5.out⟩, ⟨by (with_reducible repeat (first | apply Kd.N_alloc | apply Kd.N_drewN | apply Kd.N_drew)); exact HO_6.out⟩, ⟨by (with_reducible repeat (first | apply Kd.R_alloc | apply Kd.R_drewN | apply Kd.R_drew)); exact HO_7.out⟩, ⟨by (with_reducible repeat (first | refine blk_drewN ?_ _ | refine blk_drew ?_ | refine blk_alloc ?_ _)); exact BK155.out⟩, ⟨by repeat (first | (with_reducible first | exact HB.out | apply below_alloc | apply pw_below_drewN | apply below_drew1 | refine below_set ?_ GE155.out) | exact HB.out)⟩⟩
           ·replace c19 := Bool.eq_false_iff.mpr c19
            subst c19
            have H1 : (spec_l4Waits.l1 k2 a1 x5_1 t159 t162 x8_1 x9_2 (wrap64 (x10_2 + 1))) = some r := by rw [if_neg (show ¬ (false = true) by decide)] at H; exact H
            clear H
            have H := H1
            clear H1
            have H' := Aside0.mk H
            clear H
            obtain ⟨Ao31, co31, eo31⟩ := Kd.R_slice HO_7.out
            subst eo31
            obtain ⟨Ao32, co32, eo32⟩ := Kd.N_slice HO_6.out
            subst eo32
            have p165 : 0 ≤ (x8_1 : Int) := of_decide_eq_true (by first | (with_reducible assumption) | assumption)
            have q165 : x8_1 < (t159.length : Int) := of_decide_eq_true (by first | (with_reducible assumption) | assumption)
            obtain ⟨ad165, A165_0, c165_0, e165, hx165_0, hl165_0, hi165_0⟩ := at_L6 (Kd.N_reads' HO_6.out).2.2 x8_1 p165 q165
            cases e165
            obtain ⟨ce165, hce165, hMe165, hcc165⟩ := Kd.N_get HO_6.out [] x8_1 p165 (by first | exact q165 | exact of_decide_eq_true (by first | (with_reducible assumption) | assumption) | (have e_ := (Kd.N_reads' HO_6.out).1; omega))
            obtain ⟨ua165_0, uc165_0, rfl, ul165_0, ge165_0⟩ := Kd.FK_slice_open hMe165
            have hv165_0 := hcc165 0 _ rfl
            rw [Nat.add_zero, show ((Kd.slice 4 Kd.bool)).sz = 1 from rfl, Nat.mul_one] at hv165_0
            replace hv165_0 := Option.some.inj (hv165_0.symm.trans hx165_0)
            injection hv165_0 with hva_ hvn_ hvc_
            rw [hva_] at ge165_0
            rw [hvc_] at ul165_0
            have HL165_0 := Aside0.mk (show Kd.V Kd.bool 4 _ w.heap.size _ _ (rd_L6 t159 x8_1) from Kd.V_mk ul165_0 ge165_0)
            clear hva_ hvn_ hvc_ ge165_0 ul165_0
            clear hcc165 hce165
            have HR165_0 := Aside0.mk hi165_0
            have HC165_0 := Aside0.mk hl165_0
            clear hi165_0 hl165_0
            replace p165 := eq_true p165
            replace q165 := eq_true q165
            have p166 : 0 ≤ (x10_2 : Int) := of_decide_eq_true (by first | (with_reducible assumption) | assumption)
            have q166 : x10_2 < ((rd_L6 t159 x8_1).length : Int) := of_decide_eq_true (by first | (with_reducible assumption) | assumption)
            obtain ⟨ad166, e166, hx166_0⟩ := Kd.at_bool (by repeat (first | (with_reducible exact HR165_0.out) | (with_reducible refine Kd.C_alloc ?_ _) | (with_reducible refine Kd.C_drewN ?_ _) | (with_reducible refine Kd.C_drew ?_) | exact HR165_0.out)) x10_2 p166 q166
            (try rw [← Nbq18.out] at hx166_0)
            cases e166
            replace p166 := eq_true p166
            replace q166 := eq_true q166
            go_wp2
            go_roundg k2
            case measure => have := HK1.out; have := HK2.out; omega
            case rel => exact ⟨(x9_2), (wrap64 (x10_2 + 1)), (by first | rfl | (simp; done) | (simp [*]; done)), (by first | rfl | (simp; done) | (simp [*]; done)), H', ⟨by have := HK1.out; have := HK2.out; omega⟩, ⟨by (with_reducible repeat (first | apply Kd.R_alloc | apply Kd.R_drewN | apply Kd.R_drew)); exact HO_5.out⟩, ⟨by (with_reducible repeat (first | apply Kd.N_alloc | apply Kd.N_drewN | apply Kd.N_drew)); exact HO_6.out⟩, ⟨by (with_reducible repeat (first | apply Kd.R_alloc | apply Kd.R_drewN | apply Kd.R_drew)); exact HO_7.out⟩, ⟨by (with_reducible repeat (first | refine blk_drewN ?_ _ | refine blk_drew ?_ | refine blk_alloc ?_ _)); exact BK155.out⟩, ⟨by repeat (first | (with_reducible first | exact HB.out | apply below_alloc | apply pw_below_drewN | apply below_drew1 | refine below_set ?_ GE155.out) | exact HB.out)⟩⟩
          ·rw [if_neg c17] at H
           exact absurd H (by simp)
         ·rw [if_neg c16] at H
          exact absurd H (by simp)
        ·rw [if_neg c15] at H
         exact absurd H (by simp)
       ·rw [if_neg c14] at H
        exact absurd H (by simp)
      ·rw [if_neg c13] at H
       have c13b0 : decide (x10_2 < (t162.length : Int)) = false := decide_eq_false c13
       clear c13
       by_cases c33 : x5_1.length < 17592186044416
       ·rw [if_pos c33] at H
        have LMc33 := Aside0.mk c33
        clear c33
        obtain ⟨y171, hy171⟩ : ∃ y_ : List Int, y_ = (x5_1 ++ [x9_2]) := ⟨_, rfl⟩
        replace H : (spec_l4Waits.l0 k2 a1 y171 t159 t162 (wrap64 (x8_1 + 1))) = some r := by first | (rw [hy171]; with_reducible exact H) | (have H2_ := (Option.bind_some _ _).symm.trans H; rw [hy171]; with_reducible exact H2_) | (have H2_ := (Option.bind_some _ _).symm.trans H; with_reducible exact H2_) | with_reducible exact H | (rw [hy171]; exact H) | exact H
        have Ny171 := Aside0.mk hy171
        clear hy171
        have H' := Aside0.mk H
        clear H
        obtain ⟨Ao34, co34, eo34⟩ := Kd.R_slice HO_7.out
        subst eo34
        go_wp2_with (first | ((with_reducible refine gate_builtin (b := .append) (xs := #[.tmp 58, .tmp 60]) rfl ?_); at_builtin; refine Kd.R_append (Kd.int .i64) (w0 := w) w.heap.size rfl (.tmp 58) (.tmp 60) 38 3 (.int .i64 0) 8 rfl Try.underlying38 info3 rfl (by decide) (by omega) u5 x5_1 x9_2 [.int .i64 x9_2] (fun k_ => some k_ ≠ (.slice Ao34 t162.length co34 : Value).ownBlock) (fun _ => False) rfl rfl ?aP (fun _ hk => hk.elim) ?aF ?aO ?aB ?aS ?aL ?_; (case aP => exact rfl); (case aB => exact (by repeat (first | (with_reducible first | exact HB.out | apply below_alloc | apply pw_below_drewN | apply below_drew1 | refine below_set ?_ GE155.out) | exact HB.out))); (case aF => exact (fun k_ hk => Kd.fresh' (Kd.R_lt (by (with_reducible repeat (first | apply Kd.R_alloc | apply Kd.R_drewN | apply Kd.R_drew)); exact HO_7.out)) k_ hk)); (case aO => exact (by (with_reducible repeat (first | apply Kd.R_alloc | apply Kd.R_drewN | apply Kd.R_drew)); exact HO_5.out)); (case aS => exact (below_size (by repeat (first | (with_reducible first | exact HB.out | apply below_alloc | apply pw_below_drewN | apply below_drew1 | refine below_set ?_ GE155.out) | exact HB.out)))); (case aL => have := LMc33.out; omega); intro v172 w35 ho hb hg hat; rw [← Ny171.out] at ho; have n0_ := Aside0.mk (Kd.N_afterv (ok := (fun k_ => some k_ ≠ (.slice Ao34 t162.length co34 : Value).ownBlock ∧ k_ ≠ gb155)) (by (with_reducible repeat (first | apply Kd.N_alloc | apply Kd.N_drewN | apply Kd.N_drew)); exact Kd.N_mono HO_6.out (fun _ hk => ⟨⟨hk.2.1, hk.2.2⟩, hk.1⟩)) hg hat); have n1_ := Aside0.mk (Kd.R_after (ok := (fun _ => True)) (by (with_reducible repeat (first | apply Kd.R_alloc | apply Kd.R_drewN | apply Kd.R_drew)); exact Kd.R_mono HO_7.out (fun _ hk => ⟨trivial, hk⟩)) hg hat); have n2_ := Aside0.mk (blk_grown (g := gb155) (o := .cells #[.int .i64 a0_0, .int .i64 a0_1, .int .i64 a0_2, .int .i64 a0_3] 27 (0, 0)) (by (with_reducible repeat (first | refine blk_drewN ?_ _ | refine blk_drew ?_ | refine blk_alloc ?_ _)); exact BK155.out) hg (Kd.R_ne HO_5.out BK155.out (by decide))); have n3_ := Aside0.mk (hb); have n4_ := Aside0.mk (ho); clear HO_6; clear HO_7; clear BK155; clear HB; clear HO_5; have HO_6 := n0_; have HO_7 := n1_; have BK155 := n2_; have HB := n3_; have HO173 := n4_; clear n0_ n1_ n2_ n3_ n4_; clear ho hb hg hat))
        go_roundg k2
        case measure => have := HK1.out; have := HK2.out; omega
        case rel => exact ⟨(y171), (wrap64 (x8_1 + 1)), (by first | rfl | (simp; done) | (simp [*]; done)), H', ⟨by have := HK1.out; have := HK2.out; omega⟩, ⟨by (with_reducible repeat (first | apply Kd.R_alloc | apply Kd.R_drewN | apply Kd.R_drew)); exact HO173.out⟩, ⟨by (with_reducible repeat (first | apply Kd.N_alloc | apply Kd.N_drewN | apply Kd.N_drew)); exact Kd.N_mono HO_6.out (fun _ hk => ⟨hk.2, ⟨hk.1.1, hk.1.2⟩⟩)⟩, ⟨by (with_reducible repeat (first | apply Kd.R_alloc | apply Kd.R_drewN | apply Kd.R_drew)); exact Kd.R_mono HO_7.out (fun _ hk => hk.2)⟩, ⟨by (with_reducible repeat (first | refine blk_drewN ?_ _ | refine blk_drew ?_ | refine blk_alloc ?_ _)); exact BK155.out⟩, ⟨by repeat (first | (with_reducible first | exact HB.out | apply below_alloc | apply pw_below_drewN | apply below_drew1 | refine below_set ?_ GE155.out) | exact HB.out)⟩⟩
       ·rw [if_neg c33] at H
        exact absurd H (by simp)
   ·rw [if_neg c12] at H
    have c12b0 : decide (x8_1 ≤ a1) = false := decide_eq_false c12
    clear c12
    obtain rfl := Option.some.inj H
    go_wp2
    go_ret
    exact ⟨_, by first | rfl | (simp [errW_none, errW_some] <;> rfl) | (simp [*, errW_none, errW_some] <;> rfl), by (with_reducible repeat (first | apply Kd.R_alloc | apply Kd.R_drewN | apply Kd.R_drew)); exact Kd.R_mono HO_5.out (fun _ hk => trivial), by repeat (first | (with_reducible first | exact HB.out | apply below_alloc | apply pw_below_drewN | apply below_drew1 | refine below_set ?_ GE155.out) | exact HB.out)⟩
end Go.Proofs.Ytlhodfjdmafapaa.QWt
end
end
section
namespace Go.Proofs.Ytlhodfjdmafapaa
open Go.RowKit Go.Maps Go.Proofs.YtlhodfjdmafapaaW.PrintWords Go.Proofs.YtlhodfjdmafapaaW.PrintLast Go.Proofs.Ytlhodfjdmafapaa.QMs Go.Proofs.Ytlhodfjdmafapaa.QWt
set_option linter.unusedVariables false
set_option linter.unusedSimpArgs false
/-- the wait, one more sand looked at -/
def bestW (k : Nat → Int) (t : Nat) (b : Int) (p : Sd × Int) : Int := if mB k t p.1 = true ∧ (b < 0 ∨ p.2 < b) then p.2 else b
/-- the least time of a sand from which the span is measured, -1 for none -/
def MinW (k : Nat → Int) (t : Nat) (S : Sd × Int → Prop) (b : Int) : Prop :=
 (b = -1 ∧ ∀ p, S p → mB k t p.1 = false) ∨ ∃ p, S p ∧ mB k t p.1 = true ∧ b = p.2 ∧ ∀ q, S q → mB k t q.1 = true → p.2 ≤ q.2
theorem MinW.start (k : Nat → Int) (t : Nat) : MinW k t (fun _ => False) (-1) := .inl ⟨rfl, fun _ h => h.elim⟩
theorem MinW.congr {k : Nat → Int} {t : Nat} {S S' : Sd × Int → Prop} {b : Int} (h : MinW k t S b) (hS : ∀ p, S p ↔ S' p) : MinW k t S' b := by
 rcases h with ⟨h1, h2⟩ | ⟨p, h1, h2, h3, h4⟩
 ·exact .inl ⟨h1, fun p hp => h2 p ((hS p).2 hp)⟩
 ·exact .inr ⟨p, (hS p).1 h1, h2, h3, fun q hq => h4 q ((hS q).2 hq)⟩
theorem MinW.add {k : Nat → Int} {t : Nat} {S : Sd × Int → Prop} {b : Int} (h : MinW k t S b) {p : Sd × Int} (hp : 0 ≤ p.2) (hS : ∀ q, S q → 0 ≤ q.2) : MinW k t (fun q => S q ∨ q = p) (bestW k t b p) := by
 unfold bestW
 by_cases c : mB k t p.1 = true
 ·rcases h with ⟨h1, h2⟩ | ⟨q, h1, h2, h3, h4⟩
  ·rw [if_pos ⟨c, .inl (by omega)⟩]
   refine .inr ⟨p, .inr rfl, c, rfl, fun q hq hm => ?_⟩
   rcases hq with hq | rfl
   ·rw [h2 q hq] at hm; cases hm
   ·exact Int.le_refl _
  ·have := hS q h1
   by_cases d : p.2 < b
   ·rw [if_pos ⟨c, .inr d⟩]
    refine .inr ⟨p, .inr rfl, c, rfl, fun r hr hm => ?_⟩
    rcases hr with hr | rfl
    ·have := h4 r hr hm; omega
    ·exact Int.le_refl _
   ·rw [if_neg (by rintro ⟨_, e | e⟩ <;> omega)]
    refine .inr ⟨q, .inl h1, h2, h3, fun r hr hm => ?_⟩
    rcases hr with hr | rfl
    ·exact h4 r hr hm
    ·omega
 ·rw [if_neg (fun e => c e.1)]
  have c' : mB k t p.1 = false := by simpa using c
  rcases h with ⟨h1, h2⟩ | ⟨q, h1, h2, h3, h4⟩
  ·refine .inl ⟨h1, fun q hq => ?_⟩
   rcases hq with hq | rfl
   ·exact h2 q hq
   ·exact c'
  ·refine .inr ⟨q, .inl h1, h2, h3, fun r hr hm => ?_⟩
   rcases hr with hr | rfl
   ·exact h4 r hr hm
   ·exact absurd hm c
theorem MinW.uniq {k : Nat → Int} {t : Nat} {S : Sd × Int → Prop} {b b' : Int} (h : MinW k t S b) (h' : MinW k t S b') : b = b' := by
 rcases h with ⟨h1, h2⟩ | ⟨p, h1, h2, h3, h4⟩
 ·rcases h' with ⟨g1, g2⟩ | ⟨q, g1, g2, g3, g4⟩
  ·omega
  ·rw [h2 q g1] at g2; cases g2
 ·rcases h' with ⟨g1, g2⟩ | ⟨q, g1, g2, g3, g4⟩
  ·rw [g2 p h1] at h2; cases h2
  ·have := h4 q g1 g2
   have := g4 p h1 h2
   omega
/-- the wait of a span -/
noncomputable def waitAt (k : Nat → Int) (t : Nat) : Int := (ofOut k (earlL k)).foldl (bestW k t) (-1)
noncomputable def waitL (k : Nat → Int) (T : Nat) : List Int := (List.range T).map fun i => waitAt k (i + 1)
theorem waitL_len (k : Nat → Int) (T : Nat) : (waitL k T).length = T := by simp [waitL]
theorem fold_min {k : Nat → Int} {t : Nat} : ∀ (l : List (Sd × Int)) (S : Sd × Int → Prop) (b : Int), MinW k t S b → (∀ q, S q → 0 ≤ q.2) → (∀ q ∈ l, 0 ≤ q.2) → MinW k t (fun q => S q ∨ q ∈ l) (l.foldl (bestW k t) b)
 | [], S, b, h, _, _ => h.congr fun p => by simp
 | a :: l, S, b, h, h1, h2 => by
  have ha := h2 a List.mem_cons_self
  rw [List.foldl_cons]
  refine (fold_min l _ _ (h.add ha h1) (fun q hq => ?_) (fun q hq => h2 q (List.mem_cons_of_mem _ hq))).congr fun p => ?_
  ·rcases hq with hq | rfl
   ·exact h1 q hq
   ·exact ha
  ·simp only [List.mem_cons]
   constructor
   ·rintro ((h | h) | h)
    ·exact .inl h
    ·exact .inr (.inl h)
    ·exact .inr (.inr h)
   ·rintro (h | h | h)
    ·exact .inl (.inl h)
    ·exact .inl (.inr h)
    ·exact .inr h
theorem waitAt_min {k : Nat → Int} (hk : ∀ i, i < 4 → 0 ≤ k i ∧ k i ≤ 30) (t : Nat) : MinW k t (fun p => p ∈ metL k) (waitAt k t) := by
 refine (fold_min (ofOut k (earlL k)) _ _ (MinW.start k t) (fun _ h => h.elim) (fun q hq => ?_)).congr fun p => ?_
 ·obtain ⟨id, a, b, c, rfl⟩ := (ofOut_mem hk).1 hq
  exact c
 ·rw [false_or]
  exact (earl_perm hk).mem_iff
/-! the reference -/
theorem wait_fold (k : Nat → Int) (t : Nat) : ∀ (l : List Nat) (b : Int), ((l.filter fun i => decide (0 ≤ rd (earlL k) (i : Nat))).map fun (i : Nat) => (sandX k i, rd (earlL k) i)).foldl (bestW k t) b = l.foldl (fun b i => if 0 ≤ rd (earlL k) (i : Nat) then bestW k t b (sandX k (i : Nat), rd (earlL k) (i : Nat)) else b) b
 | [], b => rfl
 | a :: l, b => by
  rw [List.filter_cons, List.foldl_cons]
  by_cases c : 0 ≤ rd (earlL k) (a : Nat)
  ·rw [if_pos (decide_eq_true c), List.map_cons, List.foldl_cons, wait_fold, if_pos c]
  ·rw [if_neg (by simpa using c), wait_fold, if_neg c]
theorem wait_at {k : Nat → Int} {N : Nat} (hN : (N : Int) = prodT k) (t : Nat) : (List.range' 0 N).foldl (fun b i => if 0 ≤ rd (earlL k) (i : Nat) then bestW k t b (sandX k (i : Nat), rd (earlL k) (i : Nat)) else b) (-1) = waitAt k t := by
 unfold waitAt ofOut
 rw [wait_fold, List.range_eq_range', show (prodT k).toNat = N by omega]
section
variable {k : Nat → Int} {N T : Nat} (hN : (N : Int) = prodT k) (hN2 : N ≤ 3000) (hT : T ≤ 60)
include hN hN2 hT
theorem wait_l1 (t : Nat) (ht : 1 ≤ t) (htT : t ≤ T) (x5 : List Int) (hx5 : x5.length ≤ 60) (r : List Int) : ∀ (m j : Nat) (b : Int), j + m = N → Ev (fun f => spec_l4Waits.l0 f (T : Int) (x5 ++ [(List.range' j m).foldl (fun b i => if 0 ≤ rd (earlL k) (i : Nat) then bestW k t b (sandX k (i : Nat), rd (earlL k) (i : Nat)) else b) b]) (measT k N T) (earlL k) ((t : Int) + 1)) r → Ev (fun f => spec_l4Waits.l1 f (T : Int) x5 (measT k N T) (earlL k) (t : Int) b (j : Int)) r := by
 have hl := earl_len k (by omega)
 intro m
 induction m with
 | zero =>
  intro j b hj h
  refine Ev.step (f := fun f => _) (fun f => by simp only [spec_l4Waits.l1]; rfl) ?_
  refine ev_neg (by omega) (ev_pos (by omega) ?_)
  rw [wrap_big (by omega) (by omega)]
  exact h
 | succ m ih =>
  intro j b hj h
  have hw : wrap64 ((j : Int) + 1) = ((j + 1 : Nat) : Int) := by unfold wrap64; omega
  have hrow : rd_L6 (measT k N T) (t : Int) = rowM k N t := by
   have := measT_rd (k := k) (N := N) (T := T) (u := (t : Int)) (by omega) (by omega)
   rw [Int.toNat_natCast] at this
   exact this
  rw [List.range'_succ, List.foldl_cons] at h
  refine Ev.step (f := fun f => _) (fun f => by simp only [spec_l4Waits.l1]; rfl) ?_
  refine ev_pos (by omega) (ev_pos (by omega) (ev_pos (by rw [measT_len]; omega) (ev_pos (by omega) ?_)))
  rw [hrow, rowM_rd (by omega) (by omega), hw]
  refine ev_pos (by rw [rowM_len]; omega) ?_
  by_cases c : mB k t (sandX k (j : Nat)) = true
  ·refine ev_pos c ?_
   by_cases c2 : 0 ≤ rd (earlL k) (j : Nat)
   ·rw [if_pos c2] at h
    refine ev_pos c2 ?_
    by_cases c3 : b < 0
    ·rw [show bestW k t b (sandX k (j : Nat), rd (earlL k) (j : Nat)) = rd (earlL k) (j : Nat) by unfold bestW; rw [if_pos ⟨c, .inl c3⟩]] at h
     exact ev_pos c3 (ih (j + 1) _ (by omega) h)
    ·refine ev_neg c3 ?_
     by_cases c4 : rd (earlL k) (j : Nat) < b
     ·rw [show bestW k t b (sandX k (j : Nat), rd (earlL k) (j : Nat)) = rd (earlL k) (j : Nat) by unfold bestW; rw [if_pos ⟨c, .inr c4⟩]] at h
      exact ev_pos c4 (ih (j + 1) _ (by omega) h)
     ·rw [show bestW k t b (sandX k (j : Nat), rd (earlL k) (j : Nat)) = b by unfold bestW; rw [if_neg (fun e => e.2.elim c3 c4)]] at h
      exact ev_neg c4 (ih (j + 1) _ (by omega) h)
   ·rw [if_neg c2] at h
    exact ev_neg c2 (ih (j + 1) _ (by omega) h)
  ·refine ev_neg c ?_
   refine ih (j + 1) _ (by omega) ?_
   by_cases c2 : 0 ≤ rd (earlL k) (j : Nat)
   ·rw [if_pos c2, show bestW k t b (sandX k (j : Nat), rd (earlL k) (j : Nat)) = b by unfold bestW; rw [if_neg (fun e => c e.1)]] at h
    exact h
   ·rw [if_neg c2] at h
    exact h
theorem wait_l0 : ∀ (m t : Nat), t + m = T → Ev (fun f => spec_l4Waits.l0 f (T : Int) (waitL k t) (measT k N T) (earlL k) ((t : Int) + 1)) (waitL k T) := by
 intro m
 induction m with
 | zero =>
  intro t h
  refine Ev.step (f := fun f => _) (fun f => by simp only [spec_l4Waits.l0]; rfl) ?_
  rw [show t = T by omega]
  exact ev_neg (by omega) (Ev.now _)
 | succ m ih =>
  intro t h
  refine Ev.step (f := fun f => _) (fun f => by simp only [spec_l4Waits.l0]; rfl) ?_
  refine ev_pos (by omega) ?_
  refine wait_l1 hN hN2 hT (t + 1) (by omega) (by omega) (waitL k t) (by rw [waitL_len]; omega) _ N 0 (-1) (by omega) ?_
  rw [wait_at hN]
  have e : waitL k t ++ [waitAt k (t + 1)] = waitL k (t + 1) := by
   unfold waitL
   rw [List.range_succ, List.map_append]
   rfl
  rw [e]
  exact ih (t + 1) (by omega)
end
theorem wait_ev (a b c d : Int) (hk : isKitB (v4 a b c d) = true) (hp : prodT (v4 a b c d) ≤ 3000) {T : Nat} (hT : T ≤ 60) : Ev (fun f => spec_l4Waits.f f a b c d (T : Int)) (waitL (v4 a b c d) T) := by
 have hp1 := (prod_is (kit_bounds hk)).2
 obtain ⟨N, hN⟩ : ∃ N : Nat, (N : Int) = prodT (v4 a b c d) := ⟨(prodT (v4 a b c d)).toNat, by omega⟩
 have he : xEarl.f a b c d = some (earlL (v4 a b c d)) := by unfold xEarl.f; rw [if_pos ⟨hk, hp⟩]
 refine Ev.congr (f := fun f => (spec_l4Measured.f f a b c d (T : Int)).bind fun t1 => (xEarl.f a b c d).bind fun t2 => spec_l4Waits.l0 f (T : Int) [] t1 t2 1) (fun f => by unfold spec_l4Waits.f; rfl) ?_
 refine Ev.bind (meas_ev a b c d hk hN (by omega) hT) (ev_bind0 he ?_)
 exact wait_l0 hN (by omega) hT T 0 (by omega)
end Go.Proofs.Ytlhodfjdmafapaa
end
section
namespace Go.Proofs.Ytlhodfjdmafapaa.QMu
open Go.RowKit Go.Proofs.YtlhodfjdmafapaaW.PrintWords Go.Proofs.YtlhodfjdmafapaaW.PrintLast Go.Proofs.YtlhodfjdmafapaaW.PrintMore
attribute [local go_sem] max2_int min2_int max_two min_two max_three min_three max_four min_four   -- for this text's walks alone
set_option linter.unusedVariables false
set_option linter.unusedSimpArgs false
def errW : Option Int → Value
 | none => .nilIface
 | some c => .iface 0 (.int .i64 c)
theorem errW_none : errW none = .nilIface := rfl
theorem errW_some (c : Int) : errW (some c) = .iface 0 (.int .i64 c) := rfl
-- the values' own types
end Go.Proofs.Ytlhodfjdmafapaa.QMu
end
section
namespace Go.Proofs.Ytlhodfjdmafapaa.QMu
open Go.RowKit Go.Proofs.YtlhodfjdmafapaaW.PrintWords Go.Proofs.YtlhodfjdmafapaaW.PrintLast Go.Proofs.YtlhodfjdmafapaaW.PrintMore
attribute [local go_sem] max2_int min2_int max_two min_two max_three min_three max_four min_four   -- for this text's walks alone
set_option linter.unusedVariables false
set_option linter.unusedSimpArgs false
/-! ### bits_Mul64: function 119 -/
def bits_Mul64.f (a0 : Int) (a1 : Int) : Option (Int × Int) := some (IntKind.u64.wrap ((IntKind.u64.wrap ((IntKind.u64.wrap ((a0 / 4294967296) * (a1 / 4294967296))) + ((IntKind.u64.wrap ((IntKind.u64.wrap ((a0 / 4294967296) * (Go.bits .and .u64 a1 4294967295))) + ((IntKind.u64.wrap ((Go.bits .and .u64 a0 4294967295) * (Go.bits .and .u64 a1 4294967295))) / 4294967296))) / 4294967296))) + ((IntKind.u64.wrap ((Go.bits .and .u64 (IntKind.u64.wrap ((IntKind.u64.wrap ((a0 / 4294967296) * (Go.bits .and .u64 a1 4294967295))) + ((IntKind.u64.wrap ((Go.bits .and .u64 a0 4294967295) * (Go.bits .and .u64 a1 4294967295))) / 4294967296))) 4294967295) + (IntKind.u64.wrap ((Go.bits .and .u64 a0 4294967295) * (a1 / 4294967296))))) / 4294967296)), IntKind.u64.wrap (a0 * a1))
set_option maxHeartbeats 8000000 in
set_option maxRecDepth 100000 in
theorem bits_Mul64.calls (a0 : Int) (a1 : Int) (r1 : Int) (r2 : Int) (w : World) (h : bits_Mul64.f a0 a1 = some (r1, r2)) :
  Calls Try.prog 119 #[.int .u64 a0, .int .u64 a1] w fun e w' => e = .returned (.tuple #[.int .u64 r1, .int .u64 r2]) ∧ Drawn0 w w' := by
 have H : (some (IntKind.u64.wrap ((IntKind.u64.wrap ((IntKind.u64.wrap ((a0 / 4294967296) * (a1 / 4294967296))) + ((IntKind.u64.wrap ((IntKind.u64.wrap ((a0 / 4294967296) * (Go.bits .and .u64 a1 4294967295))) + ((IntKind.u64.wrap ((Go.bits .and .u64 a0 4294967295) * (Go.bits .and .u64 a1 4294967295))) / 4294967296))) / 4294967296))) + ((IntKind.u64.wrap ((Go.bits .and .u64 (IntKind.u64.wrap ((IntKind.u64.wrap ((a0 / 4294967296) * (Go.bits .and .u64 a1 4294967295))) + ((IntKind.u64.wrap ((Go.bits .and .u64 a0 4294967295) * (Go.bits .and .u64 a1 4294967295))) / 4294967296))) 4294967295) + (IntKind.u64.wrap ((Go.bits .and .u64 a0 4294967295) * (a1 / 4294967296))))) / 4294967296)), IntKind.u64.wrap (a0 * a1))) = some (r1, r2) := h
 clear h
 simp only [Option.some.injEq, Prod.mk.injEq] at H
 obtain ⟨rfl, rfl⟩ := H
 go_enter Try.func119, Try.ntmps119
 go_wp2
 go_ret2
 exact ⟨by first | rfl | (simp; done) | (simp [*]; done), by repeat (first | exact Drawn0.refl _ | apply Drawn0.step)⟩
/-! ### bits_Mul: function 103 -/
def bits_Mul.f (a0 : Int) (a1 : Int) : Option (Int × Int) := (bits_Mul64.f a0 a1).bind fun bt101 => (some (bt101.1, bt101.2))
set_option maxHeartbeats 8000000 in
set_option maxRecDepth 100000 in
theorem bits_Mul.calls (a0 : Int) (a1 : Int) (r1 : Int) (r2 : Int) (w : World) (h : bits_Mul.f a0 a1 = some (r1, r2)) :
  Calls Try.prog 103 #[.int .u64 a0, .int .u64 a1] w fun e w' => e = .returned (.tuple #[.int .u64 r1, .int .u64 r2]) ∧ Drawn0 w w' := by
 have H : ((bits_Mul64.f a0 a1).bind fun bt101 => (some (bt101.1, bt101.2))) = some (r1, r2) := h
 clear h
 replace H := Option.bind_eq_some_iff.mp H
 obtain ⟨⟨t101, t102⟩, A30, H⟩ := H
 replace H : (some (t101, t102)) = some (r1, r2) := H
 have A3 := Aside0.mk A30
 clear A30
 simp only [Option.some.injEq, Prod.mk.injEq] at H
 obtain ⟨rfl, rfl⟩ := H
 go_enter Try.func103, Try.ntmps103
 go_wp2_with (first | ((with_reducible refine gate_callee (f := 119) rfl ?_); refine goesL_ (some 25) rfl rfl Try.func119 (by kernel_rfl) rfl #[.int .u64 a0, .int .u64 a1] rfl (by (try simp only [List.map_toArray, List.map_cons, List.map_nil]); first | done | rfl | (simp only [List.length_drop, List.length_take]; rfl)) ?_; (with_reducible refine (bits_Mul64.calls a0 a1 t101 t102 _ A3.out).mono ?_); rintro e w' ⟨rfl, ⟨nd, rfl⟩⟩; refine ⟨_, rfl, ?_⟩))
 go_ret2
 exact ⟨by first | rfl | (simp; done) | (simp [*]; done), by repeat (first | exact Drawn0.refl _ | apply Drawn0.step)⟩
end Go.Proofs.Ytlhodfjdmafapaa.QMu
end
section
namespace Go.Proofs.Ytlhodfjdmafapaa
open Go.RowKit Go.Proofs.YtlhodfjdmafapaaW.PrintWords Go.Proofs.YtlhodfjdmafapaaW.PrintLast Go.Proofs.Ytlhodfjdmafapaa.QMu
set_option linter.unusedVariables false
set_option linter.unusedSimpArgs false
theorem add0 (g j : Nat) : Addr.add ⟨g, 0, none⟩ j = ⟨g, j, none⟩ := by
 cases j with
 | zero => rfl
 | succ j => simp [Addr.add]
theorem mul_one_fin : ∀ T : Fin 61, bits_Mul.f 1 (T.val : Int) = some (0, (T.val : Int)) := by decide +kernel
theorem wrap_fin : ∀ T : Fin 61, IntKind.u64.wrap (T.val : Int) = (T.val : Int) := by decide +kernel
theorem wrap_fin2 : ∀ T : Fin 61, IntKind.i64.wrap (T.val : Int) = (T.val : Int) := by decide +kernel
theorem mul_c (T : Nat) (hT : T ≤ 60) (w : World) : Calls Try.prog 103 #[.int .u64 1, .int .u64 (T : Int)] w fun e w' => e = .returned (.tuple #[.int .u64 0, .int .u64 (T : Int)]) ∧ Below w.heap.size w w' :=
 (bits_Mul.calls 1 (T : Int) 0 (T : Int) w (mul_one_fin ⟨T, by omega⟩)).mono fun e w' ⟨h1, h2⟩ => ⟨h1, h2.below⟩
/-- a row under way: n minus ones, zeros behind them -/
def rowN (T n : Nat) : List Value := (List.replicate n (-1 : Int) ++ List.replicate (T - n) 0).map (Value.int .i64)
theorem rowN_len {T n : Nat} (h : n ≤ T) : (rowN T n).length = T := by simp [rowN]; omega
theorem rowN_get {T n j : Nat} (h : n ≤ T) (hj : j < n) : (rowN T n)[j]? = some (.int .i64 (-1)) := by
 unfold rowN
 rw [List.getElem?_map, List.getElem?_append_left (by simpa using hj), List.getElem?_replicate, if_pos hj]
 rfl
theorem splice_rowN {T n m : Nat} {cur : List Value} (h : cur.take T = rowN T n) (hl : T ≤ cur.length) (hn : n + m ≤ T) : (splice cur n (List.replicate m (.int .i64 (-1)))).take T = rowN T (n + m) ∧ (splice cur n (List.replicate m (.int .i64 (-1)))).length = cur.length := by
 have e0 : n ≤ T := by omega
 refine ⟨?_, by rw [length_splice]; rw [List.length_replicate]; omega⟩
 refine List.ext_getElem? fun j => ?_
 have hc : ∀ i : Nat, (cur.take T)[i]? = (rowN T n)[i]? := fun i => by rw [h]
 simp only [List.getElem?_take] at hc ⊢
 by_cases q : j < T
 ·rw [if_pos q]
  have hcj := hc j
  rw [if_pos q] at hcj
  unfold splice
  by_cases q1 : j < n
  ·rw [List.getElem?_append_left (by rw [List.length_take]; omega), List.getElem?_take, if_pos q1, hcj, rowN_get e0 q1, rowN_get hn (by omega)]
  ·rw [List.getElem?_append_right (by rw [List.length_take]; omega), List.length_take, show min n cur.length = n by omega]
   by_cases q2 : j < n + m
   ·rw [List.getElem?_append_left (by rw [List.length_replicate]; omega), List.getElem?_replicate, if_pos (by omega), rowN_get hn q2]
   ·rw [List.getElem?_append_right (by rw [List.length_replicate]; omega), List.length_replicate, List.getElem?_drop, show n + m + (j - n - m) = j by omega, hcj]
    unfold rowN
    rw [List.getElem?_map, List.getElem?_map, List.getElem?_append_right (by rw [List.length_replicate]; omega), List.getElem?_append_right (by rw [List.length_replicate]; omega), List.getElem?_replicate, List.getElem?_replicate, List.length_replicate, List.length_replicate, if_pos (by omega), if_pos (by omega)]
 ·rw [if_neg q]
  rw [List.getElem?_eq_none (by rw [rowN_len hn]; omega)]
theorem infoI2 : (Try.prog.info? 3).map (fun i => (i.zero, i.size, i.bytes)) = some (some (.int .i64 0), 1, 8) := by kernel_rfl
theorem infoI3 : (Try.prog.info? 3).map (·.size) = some 1 := by kernel_rfl
theorem one_src {w : World} {gx : Nat} (h : w.cell? ⟨gx, 0, none⟩ = some (.int .i64 (-1))) : ∀ (j : Nat) (v : Value), (List.replicate 1 (Value.int .i64 (-1)))[j]? = some v → w.cell? (Addr.add ⟨gx, 0, none⟩ j) = some v := by
 intro j v hj
 cases j with
 | zero =>
  have : v = .int .i64 (-1) := (Option.some.inj hj).symm
  rw [this]
  simpa [Addr.add] using h
 | succ j => simp at hj
theorem ones_one (m : Nat) : ∀ v ∈ List.replicate m (Value.int .i64 (-1)), v.oneCell' = true := by
 intro v hv
 rw [List.eq_of_mem_replicate hv]
 rfl
theorem make_form {w : World} {base T : Nat} {ok : Nat → Prop} {v : Value} (h : (Kd.int .i64).R 3 w base ok v (List.replicate T 0)) (hT : 1 ≤ T) : ∃ (g cp : Nat) (cur : List Value), v = .slice (some ⟨g, 0, none⟩) T cp ∧ base ≤ g ∧ w.heap[g]? = some (.cells cur.toArray 3 (0, 0)) ∧ T ≤ cp ∧ cp ≤ maxLen ∧ cur.length = cp ∧ cur.take T = rowN T 0 := by
 obtain ⟨h1, h2⟩ := Kd.own_of_R (enc := Value.int .i64) (h1 := fun _ => rfl) h
 rw [List.length_replicate] at h2
 rcases h2 with ⟨_, e⟩ | ⟨g, cap, cur, e1, e2, e3, e4, e5, e6, e7⟩
 ·omega
 ·refine ⟨g, cap, cur.toList, e1, e2, by rw [e3], e4, e5, by rw [Array.length_toList, e6, Nat.mul_one], ?_⟩
  rw [Nat.mul_one] at e7
  rw [e7]
  unfold rowN
  rw [List.replicate_zero, List.nil_append, Nat.sub_zero]
  rfl
theorem row_form {w : World} {base T g cp : Nat} {cur : List Value} (hg : base ≤ g) (h : w.heap[g]? = some (.cells cur.toArray 3 (0, 0))) (h1 : T ≤ cp) (h2 : cp ≤ maxLen) (h3 : cur.length = cp) (h4 : cur.take T = rowN T T) : (Kd.int .i64).R 3 w base (fun _ => True) (.slice (some ⟨g, 0, none⟩) T cp) (List.replicate T (-1)) := by
 refine Kd.R_of_own (enc := Value.int .i64) (h1 := fun _ => rfl) ⟨?_, .inr ⟨g, cp, cur.toArray, ?_, hg, h, ?_, h2, ?_, ?_⟩⟩ (fun _ _ => trivial)
 ·simp [encs]
 ·rw [List.length_replicate]
 ·rw [List.length_replicate]; exact h1
 ·simp [h3]
 ·rw [List.length_replicate, Nat.mul_one, List.toList_toArray, h4]
  unfold rowN
  rw [Nat.sub_self, List.replicate_zero, List.append_nil]
  rfl
structure Pack (w0 w : World) (base T g cp : Nat) (cur : List Value) (v : Value) : Prop where
 fv : v = .slice (some ⟨g, 0, none⟩) T cp
 fbase : base ≤ g
 fcur : w.heap[g]? = some (.cells cur.toArray 3 (0, 0))
 fcp : T ≤ cp
 fml : cp ≤ maxLen
 fcl : cur.length = cp
 ftk : cur.take T = rowN T 0
 fbelow : Below base w0 w
theorem pack_of {w0 w : World} {base T : Nat} {v : Value} {n : Int} (hn : n = T) (h : (Kd.int .i64).R 3 w base (fun _ => True) v (List.replicate n.toNat 0)) (hT : 1 ≤ T) (hb : Below base w0 w) : ∃ (g cp : Nat) (cur : List Value), Pack w0 w base T g cp cur v := by
 subst hn
 rw [Int.toNat_natCast] at h
 obtain ⟨g, cp, cur, h1, h2, h3, h4, h5, h6, h7⟩ := make_form h hT
 exact ⟨g, cp, cur, h1, h2, h3, h4, h5, h6, h7, hb⟩
set_option maxRecDepth 100000 in
set_option maxHeartbeats 4000000 in
theorem repeat_c (T : Nat) (hT1 : 1 ≤ T) (hT : T ≤ 60) (gx cx : Nat) (w : World) (hx : w.heap[gx]? = some (.cells #[.int .i64 (-1)] 3 (0, 0))) : Calls Try.prog 82 #[.slice (some ⟨gx, 0, none⟩) 1 cx, .int .i64 (T : Int)] w fun e w' => ∃ v0 : Value, e = .returned v0 ∧ (Kd.int .i64).R 3 w' w.heap.size (fun _ => True) v0 (List.replicate T (-1)) ∧ Below w.heap.size w w' := by
 have hx' := Aside0.mk hx
 clear hx
 have hp := mul_c T hT
 have c0 : decide ((T : Int) < 0) = false := decide_eq_false (by omega)
 have hw : IntKind.u64.wrap (T : Int) = (T : Int) := wrap_fin ⟨T, by omega⟩
 have c1 : decide ((T : Int) > 9223372036854775807) = false := decide_eq_false (by omega)
 have c2 : decide ((9223372036854775807 : Int) < (T : Int)) = false := decide_eq_false (by omega)
 have hw2 : IntKind.i64.wrap (T : Int) = (T : Int) := wrap_fin2 ⟨T, by omega⟩
 go_enter Try.func82, Try.ntmps82
 go_wp2_with fail
 refine (hp _).mono ?_
 rintro e w1 ⟨rfl, hb1⟩
 have hx1 := Aside0.mk (blk_below hx'.out hb1)
 go_wp2_with (first
  | ((with_reducible refine gate_dst (N := 30) rfl ?_); refine Kd.R_make (Kd.int .i64) (w0 := w) w.heap.size 3 rfl (N := 30) rfl 38 _ _ rfl (T : Int) rfl rfl Try.underlying38 (.int .i64 0) 8 infoI2 rfl (by decide) (by omega) 0 (ok := fun _ => True) (okp := fun _ => True) rfl (fun _ hk => hk) trivial (by omega) (by omega) hb1 hb1.size ?_; intro v3 w3 hR3 hb3 hg3 hn3; obtain ⟨g, cp, cur, HP⟩ := pack_of rfl hR3 hT1 hb3; obtain rfl := HP.fv; have hs3 := one_src (w := w3) (gx := gx) ((blk_cell (blk_grown hx1.out hg3 (by simp)) 0).trans rfl); have hfit3 : 0 + (List.replicate 1 (Value.int .i64 (-1))).length ≤ cur.length := by rw [List.length_replicate]; have := HP.fcp; have := HP.fcl; omega)
  | (refine wpList_copy_splice (o := ⟨some 33, _, _, _, _, _⟩) rfl (.tmp 31) (.tmp 32) 38 38 rfl 3 Try.underlying38 infoI3 _ _ _ _ _ _ rfl rfl g 0 cur 3 HP.fcur (List.replicate 1 (.int .i64 (-1))) (by rw [List.length_replicate]; exact (Nat.min_eq_left hT1).symm) (fun _ => ⟨rfl, _, rfl, hs3⟩) hfit3 (ones_one 1) w.heap.size w HP.fbelow HP.fbase ?_; intro w4 hG4 hb4))
 have hfb := HP.fbase
 have hfc := HP.fcp
 have hfl := HP.fcl
 have hfm := HP.fml
 have HS := splice_rowN (m := 1) (n := 0) HP.ftk (by omega) (by omega)
 have HG4 := Aside0.mk (show w4.heap[g]? = some (.cells (splice cur 0 (List.replicate 1 (.int .i64 (-1)))).toArray 3 (0, 0)) from hG4.out)
 have HB4 := Aside0.mk hb4
 clear hG4 hb4 hs3 hfit3 hb1 hx1 hx' hw hw2 c0 c1 c2 hp
 obtain ⟨HS1, HS2⟩ := HS
 have HT := Aside0.mk HS1
 have HL := Aside0.mk (HS2.trans hfl)
 clear HS1 HS2
 obtain ⟨cur1, hcur1⟩ : ∃ l, l = splice cur 0 (List.replicate 1 (Value.int .i64 (-1))) := ⟨_, rfl⟩
 rw [← hcur1] at HG4 HT HL
 clear hcur1
 go_loopw [8] (fun v8 wr => ∃ (n : Nat) (cur : List Value), v8 = .int .i64 n ∧ Aside0 (1 ≤ n ∧ n ≤ T) ∧ Aside0 (wr.heap[g]? = some (.cells cur.toArray 3 (0, 0))) ∧ Aside0 (cur.length = cp) ∧ Aside0 (cur.take T = rowN T n) ∧ Aside0 (Below w.heap.size w wr)) (fun v8 _ => T - (intOf v8).toNat)
 case atStart => exact ⟨1, cur1, rfl, ⟨by omega, by omega⟩, HG4, HL, HT, HB4⟩
 case round =>
  clear HG4 HL HT HB4
  obtain ⟨n, cur, rfl, HN, HG, HL, HT, HB⟩ := hrel
  obtain ⟨wo, rfl⟩ : ∃ wo : World, wo = wr := ⟨_, rfl⟩
  have hn1 := HN.out.1
  have hn2 := HN.out.2
  have hl := HL.out
  by_cases c : n < T
  ·have c0 : decide (n < T) = true := decide_eq_true c
   have c1 : decide ((n : Int) < (T : Int)) = true := decide_eq_true (by omega)
   have p0 : (0 : Int) ≤ (n : Int) := by omega
   have p1 : (n : Int) ≤ (T : Int) := by omega
   have p2 : (n : Int) ≤ (cp : Int) := by omega
   have p3 : n ≤ T := hn2
   have p4 : n ≤ cp := by omega
   have p5 : ¬ cp = n := by omega
   obtain ⟨m, hm⟩ : ∃ m, m = Nat.min n (T - n) := ⟨_, rfl⟩
   have hm1 : 1 ≤ m ∧ m ≤ n ∧ n + m ≤ T := by
    have h1 : m ≤ n := by rw [hm]; exact Nat.min_le_left _ _
    have h2 : m ≤ T - n := by rw [hm]; exact Nat.min_le_right _ _
    have h3 : 1 ≤ m := by rw [hm]; exact (Nat.le_min (a := 1) (b := n) (c := T - n)).2 ⟨hn1, by omega⟩
    exact ⟨h3, h1, by omega⟩
   have hsrc : ∀ (j : Nat) (v : Value), (List.replicate m (Value.int .i64 (-1)))[j]? = some v → wo.cell? (Addr.add ⟨g, 0, none⟩ j) = some v := by
    intro j v hj
    have hjm : j < m := by
     rcases Nat.lt_or_ge j m with q | q
     ·exact q
     ·rw [List.getElem?_eq_none (by rw [List.length_replicate]; exact q)] at hj; cases hj
    rw [List.getElem?_replicate, if_pos hjm] at hj
    have hv : v = .int .i64 (-1) := (Option.some.inj hj).symm
    have hc : cur[j]? = some (.int .i64 (-1)) := by
     have h1 := rowN_get (T := T) (n := n) hn2 (show j < n by omega)
     rw [← HT.out, List.getElem?_take, if_pos (by omega)] at h1
     exact h1
    rw [hv]
    have h2 := (blk_cell HG.out j).trans (by simpa using hc)
    exact add0 g j ▸ h2
   have hlen : (List.replicate m (Value.int .i64 (-1))).length = Nat.min n (T - n) := by rw [List.length_replicate]; exact hm
   obtain ⟨w4, hrun, hg4, hb4⟩ : ∃ w4 : World, (Builtin.copy_ #[38, 38] 3 #[.slice (some ⟨g, n, none⟩) (T - n) (cp - n), .slice (some ⟨g, 0, none⟩) n cp]).run Try.prog wo.drew = .ok (.int .i64 (m : Int)) w4 ∧ w4.heap[g]? = some (.cells (splice cur n (List.replicate m (.int .i64 (-1)))).toArray 3 (0, 0)) ∧ Below w.heap.size w w4 := by
    have h := run_copy_row (P := Try.prog) wo.drew 38 38 3 3 g n (T - n) (cp - n) ⟨g, 0, none⟩ n cp cur.toArray 3 (List.replicate m (.int .i64 (-1))) Try.underlying38 infoI3 (blk_drew HG.out) hlen hsrc (by rw [List.length_replicate, List.size_toArray]; omega) (ones_one m)
    refine ⟨_, h.trans (by rw [List.length_replicate]; rfl), (setRow_heap wo.drew g _ _ _ _ (blk_drew HG.out)).trans ?_, below_setRow (below_drew1 HB.out) hfb _⟩
    simp [splice]
   have HG4 := Aside0.mk hg4
   have HB4 := Aside0.mk hb4
   clear hsrc hlen hg4 hb4 hm
   have HS := splice_rowN (m := m) (n := n) HT.out (by omega) (by omega)
   go_wp2_with fail
   have hww : IntKind.i64.wrap ((n : Int) + (m : Int)) = ((n + m : Nat) : Int) := by
    rw [← Int.natCast_add]
    exact wrap_fin2 ⟨n + m, by omega⟩
   have HWW := Aside0.mk hww
   clear hww
   go_region_law (fail)
   have hww := HWW.out
   go_roundw
   case rel =>
    refine ⟨_, _, _, _, _, _, _, _, _, _, _, _, _, _, ⟨n + m, _, ?_, ⟨by omega⟩, HG4, ⟨HS.2.trans hl⟩, ⟨HS.1⟩, HB4⟩, rfl⟩
    rw [hww]
   case measure =>
    show T - (intOf (.int .i64 (IntKind.i64.wrap ((n : Int) + m)))).toNat < T - (intOf (.int .i64 (n : Int))).toNat
    rw [hww]
    simp only [intOf]
    omega
  ·have c0 : decide (n < T) = false := decide_eq_false c
   have c1 : decide ((n : Int) < (T : Int)) = false := decide_eq_false (by omega)
   have e : n = T := by omega
   subst e
   have HR := Aside0.mk (row_form hfb HG.out hfc hfm hl HT.out)
   go_wp2_with fail
   go_ret
   exact ⟨_, rfl, HR.out, HB.out⟩
end Go.Proofs.Ytlhodfjdmafapaa
end
section
namespace Go.Proofs.Ytlhodfjdmafapaa
open Go.RowKit Go.Maps Go.Proofs.YtlhodfjdmafapaaW.PrintWords Go.Proofs.YtlhodfjdmafapaaW.PrintLast
set_option linter.unusedVariables false
set_option linter.unusedSimpArgs false
theorem reach_in {k : Nat → Int} {O : List (Sd × Int)} (hd : SDone k calm0 O) {x : Sd} {t : Int} (r : Reach k x t) : keyIn O x := by
 induction r with
 | calm => exact hd.start
 | step x t set r hs h0 ih => exact hd.next x ih _ (edges_mem.2 ⟨set, hs, h0, rfl⟩)
/-- the waits, some sands looked at -/
def allW (k : Nat → Int) (T : Nat) (done : List (Sd × Int)) : List Int := (List.range T).map fun i => done.foldl (bestW k (i + 1)) (-1)
/-- the waits, one more sand looked at for the spans ahead of one -/
def mixW (k : Nat → Int) (T : Nat) (done : List (Sd × Int)) (p : Sd × Int) (t : Nat) : List Int := (List.range T).map fun i => if i + 1 < t then bestW k (i + 1) (done.foldl (bestW k (i + 1)) (-1)) p else done.foldl (bestW k (i + 1)) (-1)
theorem allW_len (k : Nat → Int) (T : Nat) (done : List (Sd × Int)) : (allW k T done).length = T := by simp [allW]
theorem mixW_len (k : Nat → Int) (T : Nat) (done : List (Sd × Int)) (p : Sd × Int) (t : Nat) : (mixW k T done p t).length = T := by simp [mixW]
theorem mixW_one (k : Nat → Int) (T : Nat) (done : List (Sd × Int)) (p : Sd × Int) : mixW k T done p 1 = allW k T done := by
 unfold mixW allW
 refine List.map_congr_left fun i _ => ?_
 rw [if_neg (by omega)]
theorem mixW_end (k : Nat → Int) (T : Nat) (done : List (Sd × Int)) (p : Sd × Int) : mixW k T done p (T + 1) = allW k T (done ++ [p]) := by
 unfold mixW allW
 refine List.map_congr_left fun i hi => ?_
 rw [if_pos (by have := List.mem_range.1 hi; omega), List.foldl_append]
 rfl
theorem mixW_get (k : Nat → Int) {T : Nat} (done : List (Sd × Int)) (p : Sd × Int) {t : Nat} (h1 : 1 ≤ t) (h2 : t ≤ T) : (mixW k T done p t)[t - 1]? = some (done.foldl (bestW k t) (-1)) := by
 unfold mixW
 rw [List.getElem?_map, List.getElem?_range (by omega)]
 simp only [Option.map_some]
 rw [if_neg (by omega), show t - 1 + 1 = t by omega]
theorem mixW_set (k : Nat → Int) {T : Nat} (done : List (Sd × Int)) (p : Sd × Int) {t : Nat} (h1 : 1 ≤ t) (h2 : t ≤ T) : (mixW k T done p t).set (t - 1) (bestW k t (done.foldl (bestW k t) (-1)) p) = mixW k T done p (t + 1) := by
 refine List.ext_getElem? fun j => ?_
 rw [List.getElem?_set]
 by_cases e : t - 1 = j
 ·subst e
  rw [if_pos rfl, mixW_len, if_pos (by omega)]
  unfold mixW
  rw [List.getElem?_map, List.getElem?_range (by omega)]
  simp only [Option.map_some]
  rw [if_pos (by omega), show t - 1 + 1 = t by omega]
 ·rw [if_neg e]
  unfold mixW
  rw [List.getElem?_map, List.getElem?_map]
  rcases Nat.lt_or_ge j T with q | q
  ·rw [List.getElem?_range q]
   simp only [Option.map_some]
   by_cases c : j + 1 < t
   ·rw [if_pos c, if_pos (by omega)]
   ·rw [if_neg c, if_neg (by omega)]
  ·rw [List.getElem?_eq_none (by simpa using q)]
   rfl
theorem mixW_keep (k : Nat → Int) {T : Nat} (done : List (Sd × Int)) (p : Sd × Int) {t : Nat} (h1 : 1 ≤ t) (h2 : t ≤ T) (h : bestW k t (done.foldl (bestW k t) (-1)) p = done.foldl (bestW k t) (-1)) : mixW k T done p t = mixW k T done p (t + 1) := by
 rw [← mixW_set k done p h1 h2, h]
 refine List.ext_getElem? fun j => ?_
 rw [List.getElem?_set]
 by_cases e : t - 1 = j
 ·subst e
  rw [if_pos rfl, mixW_len, if_pos (by omega)]
  exact mixW_get k done p h1 h2
 ·rw [if_neg e]
theorem allW_wait {k : Nat → Int} (hk : ∀ i, i < 4 → 0 ≤ k i ∧ k i ≤ 30) (T : Nat) {L : List (Sd × Int)} (hp : L.Perm (metL k)) : allW k T L = waitL k T := by
 unfold allW waitL
 refine List.map_congr_left fun i _ => ?_
 refine MinW.uniq (k := k) (t := i + 1) (S := fun p => p ∈ metL k) ?_ (waitAt_min hk (i + 1))
 refine (fold_min L _ _ (MinW.start k (i + 1)) (fun _ h => h.elim) (fun q hq => (((metL_nd k).2 _ (hp.mem_iff.1 hq)).sand hk).2)).congr fun p => ?_
 rw [false_or]
 exact hp.mem_iff
theorem allW_nil (k : Nat → Int) (T : Nat) : allW k T [] = List.replicate T (-1) := by
 unfold allW
 simp only [List.foldl_nil]
 rw [List.map_const', List.length_range]
theorem span_at {k : Nat → Int} {w : World} {bo T : Nat} {O : List (Sd × Int)} {x0 x1 x2 x3 : Int} (hown : MU.own w bo O.length O) (hnd : Nd O) (hv : ∀ p ∈ O, p.2 = (bvN k T p.1 : Int)) (hin : keyIn O (x0, x1, x2, x3)) (hg : good4 (x0, x1, x2, x3)) : (Instr.lookup 64 (.map (some bo)) (.agg #[.int .i64 x0, .int .i64 x1, .int .i64 x2, .int .i64 x3]) false).run Try.prog w = .ok (.int .u64 (bvN k T (x0, x1, x2, x3) : Int)) w := by
 obtain ⟨v, hin⟩ := hin
 have e := hv _ hin
 simp only at e
 subst e
 have := look_own1 (M := MU) hown Try.underlying64 zeroU hg w (Below.refl _ _)
 rw [getA_mem hnd hin] at this
 exact this
set_option maxRecDepth 100000 in
set_option maxHeartbeats 4000000 in
theorem waits_c (k : Nat → Int) (T : Nat) (hT1 : 1 ≤ T) (hT : T ≤ 60) (hk : isKitB k = true) (w : World) : Calls Try.prog 58 #[A4 k, .int .i64 T] w fun e w' => ∃ v0 : Value, e = .returned v0 ∧ (Kd.int .i64).R 3 w' w.heap.size (fun _ => True) v0 (waitL k T) ∧ Below w.heap.size w w' := by
 have HKB := Aside0.mk hk
 have HKD := Aside0.mk (kit_bounds hk)
 clear hk
 go_enter Try.func58, Try.ntmps58
 go_wp2_with fail
 have HBb := Aside0.mk (show Below w.heap.size w (w.alloc (.cells #[.int .i64 (k 0), .int .i64 (k 1), .int .i64 (k 2), .int .i64 (k 3)] 27 (0, 0))) from below_alloc (Below.refl _ _) _)
 have HKb := Aside0.mk (heap_alloc_new w (.cells #[.int .i64 (k 0), .int .i64 (k 1), .int .i64 (k 2), .int .i64 (k 3)] 27 (0, 0)))
 generalize w.alloc (.cells #[.int .i64 (k 0), .int .i64 (k 1), .int .i64 (k 2), .int .i64 (k 3)] 27 (0, 0)) = wb at HBb HKb ⊢
 refine (meter_c k wb.heap.size _ (Nat.le_refl _)).mono ?_
 rintro e w1 ⟨bm, be, rfl, hm1, hbe, hb1⟩
 have HM1 := Aside0.mk hm1
 have HB1 := Aside0.mk hb1
 have HBE := Aside0.mk hbe
 clear hm1 hb1 hbe
 go_wp2_with fail
 refine (calm_c _).mono ?_
 rintro e w2 ⟨rfl, hb2⟩
 have HM2 := Aside0.mk (HM1.out.step hb2)
 have HB2 := Aside0.mk (below_chain HB1.out hb2)
 clear hb2 HM1 HB1
 go_wp2_with fail
 refine (spans_c k bm be wb.heap.size calm0 T hT _ [] HKB.out (calm_sand HKD.out) wb _ (HM2.out.step (below_alloc (Below.refl _ _) _)) (below_alloc HB2.out _) (below_size (below_alloc HB2.out _)) (row_one w2 wb.heap.size calm0 (below_size HB2.out)) HBE.out).mono ?_
 rintro e w3 ⟨bo, O, rfl, hown, hdone, hval, hb3⟩
 have HO3 := Aside0.mk hown
 have HD := Aside0.mk hdone
 have HV := Aside0.mk hval
 have HB3 := Aside0.mk hb3
 clear hown hdone hval hb3 HM2 HB2 HBE
 go_wp2_with fail
 have HX := Aside0.mk (heap_alloc_new w3 (.cells #[.int .i64 (-1)] 3 (0, 0)))
 refine (repeat_c T hT1 hT w3.heap.size 1 _ HX.out).mono ?_
 rintro e w4 ⟨v0, rfl, hR4, hb4⟩
 have HO4 := Aside0.mk (MapKd.own_below (MapKd.own_alloc HO3.out (.cells #[.int .i64 (-1)] 3 (0, 0))) hb4)
 have HB4 := Aside0.mk (show Below wb.heap.size wb w4 from below_chain (below_alloc HB3.out _) hb4)
 have HR4 := Aside0.mk (show (Kd.int .i64).R 3 w4 wb.heap.size (fun _ => True) v0 (allW k T []) from by
  rw [allW_nil]
  exact Kd.R_lower hR4 (below_size (below_alloc HB3.out _)))
 clear hR4 hb4 HX HO3 HB3
 have HK4 := Aside0.mk (blk_below HKb.out HB4.out)
 obtain ⟨g, cp, hgv⟩ : ∃ (g cp : Nat), v0 = .slice (some ⟨g, 0, none⟩) (allW k T []).length cp := by
  obtain ⟨g, cp, h, _⟩ := Kd.R_form HR4.out (by rw [allW_len]; omega)
  exact ⟨g, cp, h⟩
 subst hgv
 rw [allW_len] at HR4 ⊢
 have q0 : w4.cell? ⟨w.heap.size, 0, none⟩ = some (.int .i64 (k 0)) := (blk_cell HK4.out 0).trans rfl
 have q1 : w4.cell? ⟨w.heap.size, 1, none⟩ = some (.int .i64 (k 1)) := (blk_cell HK4.out 1).trans rfl
 have q2 : w4.cell? ⟨w.heap.size, 2, none⟩ = some (.int .i64 (k 2)) := (blk_cell HK4.out 2).trans rfl
 have q3 : w4.cell? ⟨w.heap.size, 3, none⟩ = some (.int .i64 (k 3)) := (blk_cell HK4.out 3).trans rfl
 go_wp2_with fail
 refine (met_any k HKB.out _).mono ?_
 rintro e w5 ⟨bq, L, rfl, hbq, hown5, hmet, hb5⟩
 have HO5 := Aside0.mk (MapKd.own_below HO4.out hb5)
 have HB5 := Aside0.mk (below_chain HB4.out hb5)
 have HR5 := Aside0.mk (Kd.R_below HR4.out hb5)
 have HG := Aside0.mk (show wb.heap.size ≤ g ∧ g < w5.heap.size from ⟨Kd.R_base HR5.out g rfl, Kd.R_lt HR5.out g rfl⟩)
 have HBO := Aside0.mk (MapKd.own_lt HO5.out)
 have HBQ := Aside0.mk (MapKd.own_lt hown5)
 have HL5 := Aside0.mk hown5
 have HME := Aside0.mk hmet
 clear hbq hown5 hmet hb5 q0 q1 q2 q3 HO4 HB4 HR4 HK4
 go_wp2_with (first | (at_range; refine wpList_range_om _ MM rfl _ 55 rfl 3 Try.underlying55 bq L.length L rfl HL5.out ?_; intro w6 hrg6 hgrow6 hsz6) | fail)
 have BX : Below w5.heap.size w5 w6 := (Below.refl _ _).grown hgrow6 (by omega) (fun q hq => by cases hq)
 have HO6 := Aside0.mk (MapKd.own_below HO5.out BX)
 have HB6 := Aside0.mk (below_chain HB5.out BX)
 have HR6 := Aside0.mk (Kd.R_below HR5.out BX)
 have HQ6 := Aside0.mk hrg6
 clear hrg6 hgrow6 hsz6 BX HO5 HB5 HR5
 go_frame
 go_loopw [22] (fun v22 wr => ∃ (done : List (Sd × Int)), Aside0 (MM.ranges wr bq w5.heap.size L.length L done) ∧ Aside0 ((Kd.int .i64).R 3 wr wb.heap.size (fun _ => True) (.slice (some ⟨g, 0, none⟩) T cp) (allW k T done)) ∧ Aside0 (MU.own wr bo O.length O) ∧ Aside0 (Below wb.heap.size wb wr)) (fun _ wr => wr.rangeLeft bq w5.heap.size)
 case atStart => exact ⟨[], HQ6, HR6, HO6, HB6⟩
 case round =>
  clear HO6 HB6 HR6 HQ6
  obtain ⟨done, HQ, HR, HO, HB⟩ := hrel
  obtain ⟨wy, rfl⟩ : ∃ wy : World, wy = wr := ⟨_, rfl⟩
  go_wp2_with (first | (at_next; refine wpList_next_om _ MM rfl _ rfl bq w5.heap.size L.length L done rfl HQ.out ?_ ?_) | fail)
  ·intro hperm
   have HFIN := Aside0.mk (show (Kd.int .i64).R 3 wy w.heap.size (fun _ => True) (.slice (some ⟨g, 0, none⟩) T cp) (waitL k T) from by
    have h := HR.out
    rw [allW_wait HKD.out T (hperm.trans (metL_perm HME.out))] at h
    exact Kd.R_lower h HBb.out.size)
   have HBF := Aside0.mk (below_chain HBb.out HB.out)
   clear hperm
   go_wp2_with fail
   go_ret
   exact ⟨_, rfl, HFIN.out, HBF.out⟩
  ·intro y0 y1 y2 y3 v w7 hxy hnd hrg7 hlt7 hgrow7 hsz7 hen7
   have hen8 : (Instr.entry (.pointer (some ⟨w5.heap.size, 0, none⟩))).run Try.prog w7 = .ok (.tuple #[.agg #[.int .i64 y0, .int .i64 y1, .int .i64 y2, .int .i64 y3], .int .i64 v]) w7 := hen7
   have hEK : MM.eK (y0, y1, y2, y3) = .agg #[.int .i64 y0, .int .i64 y1, .int .i64 y2, .int .i64 y3] := rfl
   have hEV : MM.eV v = .int .i64 v := rfl
   simp only [hEK, hEV]
   clear hEK hEV
   have HRE := Aside0.mk (HME.out.reach _ hxy)
   have HSY := Aside0.mk (HRE.out.sand HKD.out).1
   have HKI := Aside0.mk (reach_in HD.out HRE.out)
   have HQ7 := Aside0.mk hrg7
   have HLT := Aside0.mk hlt7
   have HO7 := Aside0.mk (MapKd.own_kept HO.out hgrow7 (fun e => by have := Option.some.inj e; have := HBO.out; omega))
   have HR7 := Aside0.mk (R_only (d := Kd.int .i64) (fun _ _ _ _ _ _ h => h) HR.out (fun j hj => hgrow7.block j (Kd.R_lt HR.out j hj) (fun e => by have e1 := Option.some.inj e; have e2 : g = j := Option.some.inj hj; have := HG.out; omega)))
   have HB7 := Aside0.mk (HB.out.grown hgrow7 HB.out.size (fun q hq => by have := Option.some.inj hq; have := HG.out; omega))
   have HX7 := Aside0.mk (show w5.heap.size < w7.heap.size from MapKd.ranges_lt hrg7)
   have HNE := Aside0.mk (show bo ≠ g ∧ bq ≠ g from by
    obtain ⟨cells, hc⟩ := Kd.R_typed HR7.out g rfl
    refine ⟨fun e => ?_, fun e => ?_⟩
    ·obtain ⟨es, c, hm⟩ := MapKd.own_is HO7.out
     rw [e, hc] at hm; cases hm
    ·obtain ⟨es, c, hm⟩ := MapKd.own_is (MapKd.ranges_own HQ7.out)
     rw [e, hc] at hm; cases hm)
   clear hxy hnd hrg7 hlt7 hgrow7 hsz7 hen7 HO HR HB HQ
   go_wp2_with fail
   have BX : Below w7.heap.size w7 (w7.alloc (.cells #[.int .i64 y0, .int .i64 y1, .int .i64 y2, .int .i64 y3] 22 (0, 0))) := below_alloc (Below.refl _ _) _
   go_loopw [9] (fun v9 wr => ∃ (t : Nat), v9 = .int .i64 t ∧ Aside0 (1 ≤ t ∧ t ≤ T + 1) ∧ Aside0 ((Kd.int .i64).R 3 wr wb.heap.size (fun _ => True) (.slice (some ⟨g, 0, none⟩) T cp) (mixW k T done ((y0, y1, y2, y3), v) t)) ∧ Aside0 (w7.heap.size < wr.heap.size) ∧ Aside0 (∀ j, j ≤ w7.heap.size → j ≠ g → wr.heap[j]? = (w7.alloc (.cells #[.int .i64 y0, .int .i64 y1, .int .i64 y2, .int .i64 y3] 22 (0, 0))).heap[j]?) ∧ Aside0 (Below wb.heap.size wb wr)) (fun v9 _ => 62 - (intOf v9).toNat)
   case atStart =>
    refine ⟨1, rfl, ⟨by omega⟩, ⟨?_⟩, ⟨by simp⟩, ⟨fun j _ _ => rfl⟩, ⟨below_alloc HB7.out _⟩⟩
    rw [mixW_one]
    exact Kd.R_below HR7.out BX
   case round =>
    clear HR7
    obtain ⟨t, rfl, HT, HR, HSZ, HF, HB⟩ := hrel
    obtain ⟨wx, rfl⟩ : ∃ wx : World, wx = wr := ⟨_, rfl⟩
    have ht := HT.out
    by_cases ct : t ≤ T
    ·have ct0 : decide (t ≤ T) = true := decide_eq_true ct
     have ct1 : decide ((t : Int) ≤ (T : Int)) = true := decide_eq_true (by omega)
     have HBX := Aside0.mk ((HF.out w7.heap.size (Nat.le_refl _) (by have := HG.out; have := HX7.out; omega)).trans (heap_alloc_new w7 (.cells #[.int .i64 y0, .int .i64 y1, .int .i64 y2, .int .i64 y3] 22 (0, 0))))
     have s0 : wx.cell? ⟨w7.heap.size, 0, none⟩ = some (.int .i64 y0) := (blk_cell HBX.out 0).trans rfl
     have s1 : wx.cell? ⟨w7.heap.size, 1, none⟩ = some (.int .i64 y1) := (blk_cell HBX.out 1).trans rfl
     have s2 : wx.cell? ⟨w7.heap.size, 2, none⟩ = some (.int .i64 y2) := (blk_cell HBX.out 2).trans rfl
     have s3 : wx.cell? ⟨w7.heap.size, 3, none⟩ = some (.int .i64 y3) := (blk_cell HBX.out 3).trans rfl
     have HOX := Aside0.mk (MapKd.own_same (MapKd.own_alloc HO7.out (.cells #[.int .i64 y0, .int .i64 y1, .int .i64 y2, .int .i64 y3] 22 (0, 0))) (HF.out bo (by have := MapKd.own_lt HO7.out; omega) HNE.out.1))
     obtain ⟨N, hN⟩ : ∃ N, N = bvN k T (y0, y1, y2, y3) := ⟨_, rfl⟩
     have hlk : (Instr.lookup 64 (.map (some bo)) (.agg #[.int .i64 y0, .int .i64 y1, .int .i64 y2, .int .i64 y3]) false).run Try.prog wx = .ok (.int .u64 (N : Int)) wx := hN ▸ span_at HOX.out HD.out.nd HV.out HKI.out (sand_good HSY.out)
     have hbit : (bits BinOp.and IntKind.u64 ((N : Int) / 2 ^ t) 1 == 1) = mB k t (y0, y1, y2, y3) := by
      have h1 := bv_lt k T (y0, y1, y2, y3)
      have h2 := two_pow_lt hT
      rw [Nat.pow_succ] at h1
      rw [hN, bit_read (by omega), bit_mB k _ ct]
     have HBIT := Aside0.mk hbit
     clear hbit hN
     have hi0 : (0 : Int) ≤ (t : Int) - 1 := by omega
     have hi1 : (t : Int) - 1 < ((T : Nat) : Int) := by omega
     obtain ⟨b, hb⟩ : ∃ b, b = done.foldl (bestW k t) (-1) := ⟨_, rfl⟩
     have hc := Kd.R_celln (0 : Int) HR.out ((t : Int) - 1) hi0 hi1
     have hrd : rdOf (0 : Int) (mixW k T done ((y0, y1, y2, y3), v) t) ((t : Int) - 1) = b := by
      unfold rdOf
      rw [show ((t : Int) - 1).toNat = t - 1 by omega]
      rw [List.getD_eq_getElem?_getD, mixW_get k done _ ht.1 ct, hb]
      rfl
     have htn : ((t : Int) - 1).toNat = t - 1 := by omega
     rw [hrd, htn] at hc
     have HTN := Aside0.mk htn
     clear htn hrd
     obtain ⟨hc1, hc2⟩ := hc
     cases hm : mB k t (y0, y1, y2, y3) with
     | false =>
      have hbit := HBIT.out.trans hm
      have HKE := Aside0.mk (mixW_keep k done ((y0, y1, y2, y3), v) ht.1 ct (by unfold bestW; rw [if_neg (fun e => by rw [hm] at e; cases e.1)]) ▸ HR.out)
      clear HBIT hm
      go_wp2_with fail
      exact ⟨⟨t + 1, by go_num, ⟨by omega⟩, HKE, HSZ, HF, HB⟩, by simp only [intOf]; omega⟩
     | true =>
      have hbit := HBIT.out.trans hm
      have HM := Aside0.mk hm
      clear HBIT hm
      have MKS := Aside0.mk (show bestW k t b ((y0, y1, y2, y3), v) = v → (Kd.int .i64).R 3 (wx.setCell ⟨g, t - 1, none⟩ (.int .i64 v)) wb.heap.size (fun _ => True) (.slice (some ⟨g, 0, none⟩) T cp) (mixW k T done ((y0, y1, y2, y3), v) (t + 1)) ∧ wx.grownBy (wx.setCell ⟨g, t - 1, none⟩ (.int .i64 v)) (some g) from fun e => by
       have h := Kd.R_putg (enc := Value.int .i64) (h1 := fun _ => rfl) HR.out ((t : Int) - 1) v
       rw [HTN.out] at h
       refine ⟨?_, h.2⟩
       rw [← mixW_set k done ((y0, y1, y2, y3), v) ht.1 ct, ← hb, e]
       exact h.1)
      have MKF := Aside0.mk (show ∀ W : World, wx.grownBy W (some g) → (∀ j, j ≤ w7.heap.size → j ≠ g → W.heap[j]? = (w7.alloc (.cells #[.int .i64 y0, .int .i64 y1, .int .i64 y2, .int .i64 y3] 22 (0, 0))).heap[j]?) ∧ Below wb.heap.size wb W ∧ w7.heap.size < W.heap.size from fun W hg => ⟨fun j h1 h2 => (hg.block j (by have := HSZ.out; omega) (fun e => h2 (Option.some.inj e))).trans (HF.out j h1 h2), HB.out.grown hg HB.out.size (fun q hq => by have := Option.some.inj hq; have := HG.out; omega), Nat.lt_of_lt_of_le HSZ.out hg.size⟩)
      have HBB := Aside0.mk hb
      by_cases c1 : b < 0
      ·have d1 : decide (b < 0) = true := decide_eq_true c1
       have HST := Aside0.mk (MKS.out (by unfold bestW; rw [if_pos ⟨HM.out, .inl c1⟩]))
       clear MKS hb
       go_wp2_with fail
       obtain ⟨HF', HB', HZ'⟩ := MKF.out _ HST.out.2
       exact ⟨⟨t + 1, by go_num, ⟨by omega⟩, ⟨HST.out.1⟩, ⟨HZ'⟩, ⟨HF'⟩, ⟨HB'⟩⟩, by simp only [intOf]; omega⟩
      ·have d1 : decide (b < 0) = false := decide_eq_false c1
       by_cases c2 : v < b
       ·have d2 : decide (v < b) = true := decide_eq_true c2
        have HST := Aside0.mk (MKS.out (by unfold bestW; rw [if_pos ⟨HM.out, .inr c2⟩]))
        clear MKS hb
        go_wp2_with fail
        obtain ⟨HF', HB', HZ'⟩ := MKF.out _ HST.out.2
        exact ⟨⟨t + 1, by go_num, ⟨by omega⟩, ⟨HST.out.1⟩, ⟨HZ'⟩, ⟨HF'⟩, ⟨HB'⟩⟩, by simp only [intOf]; omega⟩
       ·have d2 : decide (v < b) = false := decide_eq_false c2
        have HKE := Aside0.mk (mixW_keep k done ((y0, y1, y2, y3), v) ht.1 ct (by rw [← hb]; unfold bestW; exact if_neg (by rintro ⟨_, e⟩; exact e.elim c1 c2)) ▸ HR.out)
        clear MKS hb
        go_wp2_with fail
        exact ⟨⟨t + 1, by go_num, ⟨by omega⟩, HKE, HSZ, HF, HB⟩, by simp only [intOf]; omega⟩
    ·have ct0 : decide (t ≤ T) = false := decide_eq_false ct
     have ct1 : decide ((t : Int) ≤ (T : Int)) = false := decide_eq_false (by omega)
     obtain rfl : t = T + 1 := by omega
     have HRN := Aside0.mk (show (Kd.int .i64).R 3 wx wb.heap.size (fun _ => True) (.slice (some ⟨g, 0, none⟩) T cp) (allW k T (done ++ [((y0, y1, y2, y3), v)])) from mixW_end k T done _ ▸ HR.out)
     have HON := Aside0.mk (MapKd.own_same (MapKd.own_alloc HO7.out (.cells #[.int .i64 y0, .int .i64 y1, .int .i64 y2, .int .i64 y3] 22 (0, 0))) (HF.out bo (by have := MapKd.own_lt HO7.out; omega) HNE.out.1))
     have h1 := HF.out bq (by have := HBQ.out; have := HX7.out; omega) HNE.out.2
     have h2 := HF.out w5.heap.size (by have := HX7.out; omega) (by have := HG.out; omega)
     have h3 := BX.block bq (by have := HBQ.out; have := HX7.out; omega)
     have h4 := BX.block w5.heap.size (by have := HX7.out; omega)
     have HQN := Aside0.mk (MapKd.ranges_same HQ7.out (h1.trans h3) (h2.trans h4))
     have HLN := Aside0.mk (show wx.rangeLeft bq w5.heap.size < wy.rangeLeft bq w5.heap.size from by
      rw [MapKd.ranges_left HQ7.out (h1.trans h3) (h2.trans h4)]
      exact HLT.out)
     clear h1 h2 h3 h4
     go_wp2_with fail
     exact ⟨⟨_, HQN, HRN, HON, HB⟩, HLN.out⟩
end Go.Proofs.Ytlhodfjdmafapaa
end
section
namespace Go.Proofs.Ytlhodfjdmafapaa
open Go.RowKit Go.Maps Go.Proofs.YtlhodfjdmafapaaW.PrintWords Go.Proofs.YtlhodfjdmafapaaW.PrintLast Go.Proofs.Ytlhodfjdmafapaa.QWt
set_option linter.unusedVariables false
noncomputable def xWaits.f (a0_0 a0_1 a0_2 a0_3 a1 : Int) : Option (List Int) := if isKitB (v4 a0_0 a0_1 a0_2 a0_3) = true ∧ prodT (v4 a0_0 a0_1 a0_2 a0_3) ≤ 3000 ∧ 1 ≤ a1 ∧ a1 ≤ 60 then some (waitL (v4 a0_0 a0_1 a0_2 a0_3) a1.toNat) else none
theorem xWaits.calls (a0_0 a0_1 a0_2 a0_3 a1 : Int) (r : List Int) (w : World) (h : xWaits.f a0_0 a0_1 a0_2 a0_3 a1 = some r) : Calls Try.prog 58 #[.agg #[.int .i64 a0_0, .int .i64 a0_1, .int .i64 a0_2, .int .i64 a0_3], .int .i64 a1] w fun e w' => ∃ v0_ : Value, e = .returned v0_ ∧ Kd.R (Kd.int .i64) 3 w' w.heap.size (fun _ => True) v0_ r ∧ Below w.heap.size w w' := by
 unfold xWaits.f at h
 split at h
 ·rename_i q
  obtain ⟨q1, q2, q3, q4⟩ := q
  obtain rfl := Option.some.inj h
  obtain ⟨T, rfl⟩ : ∃ T : Nat, a1 = (T : Int) := ⟨a1.toNat, by omega⟩
  exact waits_c (v4 a0_0 a0_1 a0_2 a0_3) T (by omega) (by omega) q1 w
 ·cases h
noncomputable def xWaitsS.f (a0_0 a0_1 a0_2 a0_3 a1 : Int) : Option (List Int) := xWaits.f a0_0 a0_1 a0_2 a0_3 a1
theorem xWaitsS.calls (a0_0 a0_1 a0_2 a0_3 a1 : Int) (r : List Int) (w : World) (h : xWaitsS.f a0_0 a0_1 a0_2 a0_3 a1 = some r) : Calls Try.prog 57 #[.agg #[.int .i64 a0_0, .int .i64 a0_1, .int .i64 a0_2, .int .i64 a0_3], .int .i64 a1] w fun e w' => ∃ v0_ : Value, e = .returned v0_ ∧ Kd.R (Kd.int .i64) 3 w' w.heap.size (fun _ => True) v0_ r ∧ Below w.heap.size w w' := by
 unfold xWaitsS.f xWaits.f at h
 split at h
 ·rename_i q
  obtain ⟨q1, q2, q3, q4⟩ := q
  obtain rfl := Option.some.inj h
  obtain ⟨T, rfl⟩ : ∃ T : Nat, a1 = (T : Int) := ⟨a1.toNat, by omega⟩
  obtain ⟨f, hf⟩ := Ev.rounds (wait_ev a0_0 a0_1 a0_2 a0_3 q1 q2 (T := T) (by omega))
  exact spec_l4Waits.calls f a0_0 a0_1 a0_2 a0_3 (T : Int) _ w hf
 ·cases h
end Go.Proofs.Ytlhodfjdmafapaa
end
section
noncomputable section
namespace Go.Proofs.Ytlhodfjdmafapaa.QAll
open Go.RowKit Go.Proofs.YtlhodfjdmafapaaW.PrintWords Go.Proofs.YtlhodfjdmafapaaW.PrintLast Go.Proofs.YtlhodfjdmafapaaW.PrintMore
attribute [local go_sem] max2_int min2_int max_two min_two max_three min_three max_four min_four   -- for this text's walks alone
set_option linter.unusedVariables false
set_option linter.unusedSimpArgs false
/-! ### spec_l1In: function 59 -/
def spec_l1In.f (a0 : Int) (a1 : Int) (a2 : Int) : Option (Bool) := if a0 ≥ a1 then (some (decide (a0 ≤ a2))) else (some false)
set_option maxHeartbeats 8000000 in
set_option maxRecDepth 100000 in
theorem spec_l1In.calls (a0 : Int) (a1 : Int) (a2 : Int) (r : Bool) (w : World) (h : spec_l1In.f a0 a1 a2 = some r) :
  Calls Try.prog 59 #[.int .i64 a0, .int .i64 a1, .int .i64 a2] w fun e w' => e = .returned (.bool r) ∧ Drawn0 w w' := by
 have H : (if a0 ≥ a1 then (some (decide (a0 ≤ a2))) else (some false)) = some r := h
 clear h
 by_cases c4 : a0 ≥ a1
 ·rw [if_pos c4] at H
  have c4b0 : decide (a1 ≤ a0) = true := decide_eq_true c4
  clear c4
  obtain rfl := Option.some.inj H
  go_enter Try.func59, Try.ntmps59
  go_wp2
  go_ret
  exact ⟨by first | rfl | (simp; done) | (simp [*]; done), by repeat (first | exact Drawn0.refl _ | apply Drawn0.step)⟩
 ·rw [if_neg c4] at H
  have c4b0 : decide (a1 ≤ a0) = false := decide_eq_false c4
  clear c4
  obtain rfl := Option.some.inj H
  go_enter Try.func59, Try.ntmps59
  go_wp2
  go_ret
  exact ⟨by first | rfl | (simp; done) | (simp [*]; done), by repeat (first | exact Drawn0.refl _ | apply Drawn0.step)⟩
/-! ### spec_l4Span: function 52 -/
def spec_l4Span.f (a0 : Int) : Option (Bool) := (spec_l1In.f a0 1 60).bind fun t101 => (some t101)
set_option maxHeartbeats 8000000 in
set_option maxRecDepth 100000 in
theorem spec_l4Span.calls (a0 : Int) (r : Bool) (w : World) (h : spec_l4Span.f a0 = some r) :
  Calls Try.prog 52 #[.int .i64 a0] w fun e w' => e = .returned (.bool r) ∧ Drawn0 w w' := by
 have H : ((spec_l1In.f a0 1 60).bind fun t101 => (some t101)) = some r := h
 clear h
 replace H := Option.bind_eq_some_iff.mp H
 obtain ⟨t101, A20, H⟩ := H
 replace H : (some t101) = some r := H
 have A2 := Aside0.mk A20
 clear A20
 obtain rfl := Option.some.inj H
 go_enter Try.func52, Try.ntmps52
 go_wp2_with (first | ((with_reducible refine gate_callee (f := 59) rfl ?_); refine goesL_ (some 4) rfl rfl Try.func59 (by kernel_rfl) rfl #[.int .i64 a0, .int .i64 1, .int .i64 60] rfl (by (try simp only [List.map_toArray, List.map_cons, List.map_nil]); first | done | rfl | (simp only [List.length_drop, List.length_take]; rfl)) ?_; (with_reducible refine (spec_l1In.calls a0 1 60 t101 _ A2.out).mono ?_); rintro e w' ⟨rfl, ⟨nd, rfl⟩⟩; refine ⟨_, rfl, ?_⟩))
 go_ret
 exact ⟨by first | rfl | (simp; done) | (simp [*]; done), by repeat (first | exact Drawn0.refl _ | apply Drawn0.step)⟩
/-! ### impl_isNarrow: function 46 -/
def impl_isNarrow.f (a0_0 : Int) (a0_1 : Int) (a0_2 : Int) (a0_3 : Int) (a1_0 : Int) (a1_1 : Int) (a1_2 : Int) (a1_3 : Int) : Option (Bool) := (xAreSand.f a0_0 a0_1 a0_2 a0_3 a1_0 a1_1 a1_2 a1_3).bind fun t111 => (if t111 = true then ((xProduct.f a0_0 a0_1 a0_2 a0_3).bind fun t112 => (some (decide (t112 ≤ 3000)))) else (some false))
set_option maxHeartbeats 8000000 in
set_option maxRecDepth 100000 in
theorem impl_isNarrow.calls (a0_0 : Int) (a0_1 : Int) (a0_2 : Int) (a0_3 : Int) (a1_0 : Int) (a1_1 : Int) (a1_2 : Int) (a1_3 : Int) (r : Bool) (w : World) (h : impl_isNarrow.f a0_0 a0_1 a0_2 a0_3 a1_0 a1_1 a1_2 a1_3 = some r) :
  Calls Try.prog 46 #[.agg #[.int .i64 a0_0, .int .i64 a0_1, .int .i64 a0_2, .int .i64 a0_3], .agg #[.int .i64 a1_0, .int .i64 a1_1, .int .i64 a1_2, .int .i64 a1_3]] w fun e w' => e = .returned (.bool r) ∧ Below w.heap.size w w' := by
 have hu27 := Try.underlying27
 have hu22 := Try.underlying22
 have HB := Aside0.mk (Below.refl w.heap.size w)
 have H : ((xAreSand.f a0_0 a0_1 a0_2 a0_3 a1_0 a1_1 a1_2 a1_3).bind fun t111 => (if t111 = true then ((xProduct.f a0_0 a0_1 a0_2 a0_3).bind fun t112 => (some (decide (t112 ≤ 3000)))) else (some false))) = some r := h
 clear h
 replace H := Option.bind_eq_some_iff.mp H
 obtain ⟨t111, A30, H⟩ := H
 replace H : (if t111 = true then ((xProduct.f a0_0 a0_1 a0_2 a0_3).bind fun t112 => (some (decide (t112 ≤ 3000)))) else (some false)) = some r := H
 have A3 := Aside0.mk A30
 clear A30
 by_cases c4 : t111 = true
 ·subst c4
  have H1 : ((xProduct.f a0_0 a0_1 a0_2 a0_3).bind fun t112 => (some (decide (t112 ≤ 3000)))) = some r := by rw [if_pos rfl] at H; exact H
  clear H
  have H := H1
  clear H1
  replace H := Option.bind_eq_some_iff.mp H
  obtain ⟨t112, A50, H⟩ := H
  replace H : (some (decide (t112 ≤ 3000))) = some r := H
  have A5 := Aside0.mk A50
  clear A50
  obtain rfl := Option.some.inj H
  go_enter Try.func46, Try.ntmps46
  go_wp2_with (first | ((with_reducible refine gate_dst (N := 2) rfl ?_); refine box_event ?hg (N := 2) ?hd (cs := #[.int .i64 a0_0, .int .i64 a0_1, .int .i64 a0_2, .int .i64 a0_3]) (t := 27) ?hr ?_; (case hd => rfl); (case hg => rfl); (case hr => first | (go_simp; done) | (go_simp; rfl)); intro gb109 hg w6 hbox hb; have n0_ := Aside0.mk (below_step (by repeat (first | (with_reducible first | exact HB.out | apply below_alloc | apply pw_below_drewN | apply below_drew1) | exact HB.out)) hb); have n1_ := Aside0.mk (hbox); have n2_ := Aside0.mk ((by rw [hg]; exact (below_size (by repeat (first | (with_reducible first | exact HB.out | apply below_alloc | apply pw_below_drewN | apply below_drew1) | exact HB.out))) : w.heap.size ≤ gb109)); have n3_ := Aside0.mk ((by rw [hg]; exact (below_size (by repeat (first | (with_reducible first | exact HB.out | apply below_alloc | apply pw_below_drewN | apply below_drew1) | exact HB.out))) : w.heap.size ≤ gb109)); clear HB; have HB := n0_; have BK109 := n1_; have GW109 := n2_; have GE109 := n3_; clear n0_ n1_ n2_ n3_; clear hb hbox hg) | ((with_reducible refine gate_dst (N := 3) rfl ?_); refine box_event ?hg (N := 3) ?hd (cs := #[.int .i64 a1_0, .int .i64 a1_1, .int .i64 a1_2, .int .i64 a1_3]) (t := 22) ?hr ?_; (case hd => rfl); (case hg => rfl); (case hr => first | (go_simp; done) | (go_simp; rfl)); intro gb110 hg w7 hbox hb; have n0_ := Aside0.mk (blk_below (g := gb109) (o := .cells #[.int .i64 a0_0, .int .i64 a0_1, .int .i64 a0_2, .int .i64 a0_3] 27 (0, 0)) (by (with_reducible repeat (first | refine blk_drewN ?_ _ | refine blk_drew ?_ | refine blk_alloc ?_ _)); exact BK109.out) hb); have n1_ := Aside0.mk (below_step (by repeat (first | (with_reducible first | exact HB.out | apply below_alloc | apply pw_below_drewN | apply below_drew1 | refine below_set ?_ GE109.out) | exact HB.out)) hb); have n2_ := Aside0.mk (hbox); have n3_ := Aside0.mk ((by rw [hg]; exact (below_size (by repeat (first | (with_reducible first | exact HB.out | apply below_alloc | apply pw_below_drewN | apply below_drew1 | refine below_set ?_ GE109.out) | exact HB.out))) : w.heap.size ≤ gb110)); have n4_ := Aside0.mk ((by rw [hg]; exact (below_size (by repeat (first | (with_reducible first | exact HB.out | apply below_alloc | apply pw_below_drewN | apply below_drew1 | refine below_set ?_ GE109.out) | exact HB.out))) : w.heap.size ≤ gb110)); have n5_ := Aside0.mk ((by rw [hg]; exact Nat.ne_of_lt (blk_lt (g := gb109) (o := .cells #[.int .i64 a0_0, .int .i64 a0_1, .int .i64 a0_2, .int .i64 a0_3] 27 (0, 0)) (by (with_reducible repeat (first | refine blk_drewN ?_ _ | refine blk_drew ?_ | refine blk_alloc ?_ _)); exact BK109.out)) : gb109 ≠ gb110)); have n6_ := Aside0.mk ((by rw [hg]; exact Nat.ne_of_gt (blk_lt (g := gb109) (o := .cells #[.int .i64 a0_0, .int .i64 a0_1, .int .i64 a0_2, .int .i64 a0_3] 27 (0, 0)) (by (with_reducible repeat (first | refine blk_drewN ?_ _ | refine blk_drew ?_ | refine blk_alloc ?_ _)); exact BK109.out)) : gb110 ≠ gb109)); clear BK109; clear HB; have BK109 := n0_; have HB := n1_; have BK110 := n2_; have GW110 := n3_; have GE110 := n4_; have NB109_110 := n5_; have NB110_109 := n6_; clear n0_ n1_ n2_ n3_ n4_ n5_ n6_; clear hb hbox hg; have hnb8 := NB109_110.out; have hnc8 := NB110_109.out; have hcz9_0 : w7.cell? ⟨gb109, 0, none⟩ = some (.int .i64 a0_0) := (blk_cell BK109.out 0).trans rfl; have hcz9_1 : w7.cell? ⟨gb109, 1, none⟩ = some (.int .i64 a0_1) := (blk_cell BK109.out 1).trans rfl; have hcz9_2 : w7.cell? ⟨gb109, 2, none⟩ = some (.int .i64 a0_2) := (blk_cell BK109.out 2).trans rfl; have hcz9_3 : w7.cell? ⟨gb109, 3, none⟩ = some (.int .i64 a0_3) := (blk_cell BK109.out 3).trans rfl; have hfz9_0 := blk_frozen BK109.out 0; have hfz9_1 := blk_frozen BK109.out 1; have hfz9_2 := blk_frozen BK109.out 2; have hfz9_3 := blk_frozen BK109.out 3; have hcz10_0 : w7.cell? ⟨gb110, 0, none⟩ = some (.int .i64 a1_0) := (blk_cell BK110.out 0).trans rfl; have hcz10_1 : w7.cell? ⟨gb110, 1, none⟩ = some (.int .i64 a1_1) := (blk_cell BK110.out 1).trans rfl; have hcz10_2 : w7.cell? ⟨gb110, 2, none⟩ = some (.int .i64 a1_2) := (blk_cell BK110.out 2).trans rfl; have hcz10_3 : w7.cell? ⟨gb110, 3, none⟩ = some (.int .i64 a1_3) := (blk_cell BK110.out 3).trans rfl; have hfz10_0 := blk_frozen BK110.out 0; have hfz10_1 := blk_frozen BK110.out 1; have hfz10_2 := blk_frozen BK110.out 2; have hfz10_3 := blk_frozen BK110.out 3) | ((with_reducible refine gate_callee (f := 63) rfl ?_); refine goesL_ (some 7) rfl rfl Try.func63 (by kernel_rfl) rfl #[.agg #[.int .i64 a0_0, .int .i64 a0_1, .int .i64 a0_2, .int .i64 a0_3], .agg #[.int .i64 a1_0, .int .i64 a1_1, .int .i64 a1_2, .int .i64 a1_3]] rfl (by (try simp only [List.map_toArray, List.map_cons, List.map_nil]); first | done | rfl | (simp only [List.length_drop, List.length_take]; rfl)) ?_; (with_reducible refine (xAreSand.calls a0_0 a0_1 a0_2 a0_3 a1_0 a1_1 a1_2 a1_3 true _ A3.out).mono ?_); rintro e w11 ⟨rfl, hb⟩; refine ⟨_, rfl, ?_⟩; have n0_ := Aside0.mk (blk_below (g := gb109) (o := .cells #[.int .i64 a0_0, .int .i64 a0_1, .int .i64 a0_2, .int .i64 a0_3] 27 (0, 0)) (by (with_reducible repeat (first | refine blk_drewN ?_ _ | refine blk_drew ?_ | refine blk_alloc ?_ _)); exact BK109.out) hb); have n1_ := Aside0.mk (blk_below (g := gb110) (o := .cells #[.int .i64 a1_0, .int .i64 a1_1, .int .i64 a1_2, .int .i64 a1_3] 22 (0, 0)) (by (with_reducible repeat (first | refine blk_drewN ?_ _ | refine blk_drew ?_ | refine blk_alloc ?_ _)); exact BK110.out) hb); have n2_ := Aside0.mk (below_step (by repeat (first | (with_reducible first | exact HB.out | apply below_alloc | apply pw_below_drewN | apply below_drew1 | refine below_set ?_ GE109.out | refine below_set ?_ GE110.out) | exact HB.out)) hb); clear BK109; clear BK110; clear HB; have BK109 := n0_; have BK110 := n1_; have HB := n2_; clear n0_ n1_ n2_; (try clear hb); (try clear hb2); (try clear hk); (try clear hi); have hcz12_0 : w11.cell? ⟨gb109, 0, none⟩ = some (.int .i64 a0_0) := (blk_cell BK109.out 0).trans rfl; have hcz12_1 : w11.cell? ⟨gb109, 1, none⟩ = some (.int .i64 a0_1) := (blk_cell BK109.out 1).trans rfl; have hcz12_2 : w11.cell? ⟨gb109, 2, none⟩ = some (.int .i64 a0_2) := (blk_cell BK109.out 2).trans rfl; have hcz12_3 : w11.cell? ⟨gb109, 3, none⟩ = some (.int .i64 a0_3) := (blk_cell BK109.out 3).trans rfl; have hfz12_0 := blk_frozen BK109.out 0; have hfz12_1 := blk_frozen BK109.out 1; have hfz12_2 := blk_frozen BK109.out 2; have hfz12_3 := blk_frozen BK109.out 3) | (go_at_call 80; (with_reducible refine (xProduct.calls a0_0 a0_1 a0_2 a0_3 t112 _ A5.out).mono ?_); rintro e w13 ⟨rfl, hb⟩; have n0_ := Aside0.mk (blk_below (g := gb109) (o := .cells #[.int .i64 a0_0, .int .i64 a0_1, .int .i64 a0_2, .int .i64 a0_3] 27 (0, 0)) (by (with_reducible repeat (first | refine blk_drewN ?_ _ | refine blk_drew ?_ | refine blk_alloc ?_ _)); exact BK109.out) hb); have n1_ := Aside0.mk (blk_below (g := gb110) (o := .cells #[.int .i64 a1_0, .int .i64 a1_1, .int .i64 a1_2, .int .i64 a1_3] 22 (0, 0)) (by (with_reducible repeat (first | refine blk_drewN ?_ _ | refine blk_drew ?_ | refine blk_alloc ?_ _)); exact BK110.out) hb); have n2_ := Aside0.mk (below_step (by repeat (first | (with_reducible first | exact HB.out | apply below_alloc | apply pw_below_drewN | apply below_drew1 | refine below_set ?_ GE109.out | refine below_set ?_ GE110.out) | exact HB.out)) hb); clear BK109; clear BK110; clear HB; have BK109 := n0_; have BK110 := n1_; have HB := n2_; clear n0_ n1_ n2_; (try clear hb); (try clear hb2); (try clear hk); (try clear hi)))
  go_ret
  exact ⟨by first | rfl | (simp [errW_none, errW_some] <;> rfl) | (simp [*, errW_none, errW_some] <;> rfl), by repeat (first | (with_reducible first | exact HB.out | apply below_alloc | apply pw_below_drewN | apply below_drew1 | refine below_set ?_ GE109.out | refine below_set ?_ GE110.out) | exact HB.out)⟩
 ·replace c4 := Bool.eq_false_iff.mpr c4
  subst c4
  have H1 : (some false) = some r := by rw [if_neg (show ¬ (false = true) by decide)] at H; exact H
  clear H
  have H := H1
  clear H1
  obtain rfl := Option.some.inj H
  go_enter Try.func46, Try.ntmps46
  go_wp2_with (first | ((with_reducible refine gate_dst (N := 2) rfl ?_); refine box_event ?hg (N := 2) ?hd (cs := #[.int .i64 a0_0, .int .i64 a0_1, .int .i64 a0_2, .int .i64 a0_3]) (t := 27) ?hr ?_; (case hd => rfl); (case hg => rfl); (case hr => first | (go_simp; done) | (go_simp; rfl)); intro gb109 hg w14 hbox hb; have n0_ := Aside0.mk (below_step (by repeat (first | (with_reducible first | exact HB.out | apply below_alloc | apply pw_below_drewN | apply below_drew1) | exact HB.out)) hb); have n1_ := Aside0.mk (hbox); have n2_ := Aside0.mk ((by rw [hg]; exact (below_size (by repeat (first | (with_reducible first | exact HB.out | apply below_alloc | apply pw_below_drewN | apply below_drew1) | exact HB.out))) : w.heap.size ≤ gb109)); have n3_ := Aside0.mk ((by rw [hg]; exact (below_size (by repeat (first | (with_reducible first | exact HB.out | apply below_alloc | apply pw_below_drewN | apply below_drew1) | exact HB.out))) : w.heap.size ≤ gb109)); clear HB; have HB := n0_; have BK109 := n1_; have GW109 := n2_; have GE109 := n3_; clear n0_ n1_ n2_ n3_; clear hb hbox hg) | ((with_reducible refine gate_dst (N := 3) rfl ?_); refine box_event ?hg (N := 3) ?hd (cs := #[.int .i64 a1_0, .int .i64 a1_1, .int .i64 a1_2, .int .i64 a1_3]) (t := 22) ?hr ?_; (case hd => rfl); (case hg => rfl); (case hr => first | (go_simp; done) | (go_simp; rfl)); intro gb110 hg w15 hbox hb; have n0_ := Aside0.mk (blk_below (g := gb109) (o := .cells #[.int .i64 a0_0, .int .i64 a0_1, .int .i64 a0_2, .int .i64 a0_3] 27 (0, 0)) (by (with_reducible repeat (first | refine blk_drewN ?_ _ | refine blk_drew ?_ | refine blk_alloc ?_ _)); exact BK109.out) hb); have n1_ := Aside0.mk (below_step (by repeat (first | (with_reducible first | exact HB.out | apply below_alloc | apply pw_below_drewN | apply below_drew1 | refine below_set ?_ GE109.out) | exact HB.out)) hb); have n2_ := Aside0.mk (hbox); have n3_ := Aside0.mk ((by rw [hg]; exact (below_size (by repeat (first | (with_reducible first | exact HB.out | apply below_alloc | apply pw_below_drewN | apply below_drew1 | refine below_set ?_ GE109.out) | exact HB.out))) : w.heap.size ≤ gb110)); have n4_ := Aside0.mk ((by rw [hg]; exact (below_size (by repeat (first | (with_reducible first | exact HB.out | apply below_alloc | apply pw_below_drewN | apply below_drew1 | refine below_set ?_ GE109.out) | exact HB.out))) : w.heap.size ≤ gb110)); have n5_ := Aside0.mk ((by rw [hg]; exact Nat.ne_of_lt (blk_lt (g := gb109) (o := .cells #[.int .i64 a0_0, .int .i64 a0_1, .int .i64 a0_2, .int .i64 a0_3] 27 (0, 0)) (by (with_reducible repeat (first | refine blk_drewN ?_ _ | refine blk_drew ?_ | refine blk_alloc ?_ _)); exact BK109.out)) : gb109 ≠ gb110)); have n6_ := Aside0.mk ((by rw [hg]; exact Nat.ne_of_gt (blk_lt (g := gb109) (o := .cells #[.int .i64 a0_0, .int .i64 a0_1, .int .i64 a0_2, .int .i64 a0_3] 27 (0, 0)) (by (with_reducible repeat (first | refine blk_drewN ?_ _ | refine blk_drew ?_ | refine blk_alloc ?_ _)); exact BK109.out)) : gb110 ≠ gb109)); clear BK109; clear HB; have BK109 := n0_; have HB := n1_; have BK110 := n2_; have GW110 := n3_; have GE110 := n4_; have NB109_110 := n5_; have NB110_109 := n6_; clear n0_ n1_ n2_ n3_ n4_ n5_ n6_; clear hb hbox hg; have hnb16 := NB109_110.out; have hnc16 := NB110_109.out; have hcz17_0 : w15.cell? ⟨gb109, 0, none⟩ = some (.int .i64 a0_0) := (blk_cell BK109.out 0).trans rfl; have hcz17_1 : w15.cell? ⟨gb109, 1, none⟩ = some (.int .i64 a0_1) := (blk_cell BK109.out 1).trans rfl; have hcz17_2 : w15.cell? ⟨gb109, 2, none⟩ = some (.int .i64 a0_2) := (blk_cell BK109.out 2).trans rfl; have hcz17_3 : w15.cell? ⟨gb109, 3, none⟩ = some (.int .i64 a0_3) := (blk_cell BK109.out 3).trans rfl; have hfz17_0 := blk_frozen BK109.out 0; have hfz17_1 := blk_frozen BK109.out 1; have hfz17_2 := blk_frozen BK109.out 2; have hfz17_3 := blk_frozen BK109.out 3; have hcz18_0 : w15.cell? ⟨gb110, 0, none⟩ = some (.int .i64 a1_0) := (blk_cell BK110.out 0).trans rfl; have hcz18_1 : w15.cell? ⟨gb110, 1, none⟩ = some (.int .i64 a1_1) := (blk_cell BK110.out 1).trans rfl; have hcz18_2 : w15.cell? ⟨gb110, 2, none⟩ = some (.int .i64 a1_2) := (blk_cell BK110.out 2).trans rfl; have hcz18_3 : w15.cell? ⟨gb110, 3, none⟩ = some (.int .i64 a1_3) := (blk_cell BK110.out 3).trans rfl; have hfz18_0 := blk_frozen BK110.out 0; have hfz18_1 := blk_frozen BK110.out 1; have hfz18_2 := blk_frozen BK110.out 2; have hfz18_3 := blk_frozen BK110.out 3) | ((with_reducible refine gate_callee (f := 63) rfl ?_); refine goesL_ (some 7) rfl rfl Try.func63 (by kernel_rfl) rfl #[.agg #[.int .i64 a0_0, .int .i64 a0_1, .int .i64 a0_2, .int .i64 a0_3], .agg #[.int .i64 a1_0, .int .i64 a1_1, .int .i64 a1_2, .int .i64 a1_3]] rfl (by (try simp only [List.map_toArray, List.map_cons, List.map_nil]); first | done | rfl | (simp only [List.length_drop, List.length_take]; rfl)) ?_; (with_reducible refine (xAreSand.calls a0_0 a0_1 a0_2 a0_3 a1_0 a1_1 a1_2 a1_3 false _ A3.out).mono ?_); rintro e w19 ⟨rfl, hb⟩; refine ⟨_, rfl, ?_⟩; have n0_ := Aside0.mk (blk_below (g := gb109) (o := .cells #[.int .i64 a0_0, .int .i64 a0_1, .int .i64 a0_2, .int .i64 a0_3] 27 (0, 0)) (by (with_reducible repeat (first | refine blk_drewN ?_ _ | refine blk_drew ?_ | refine blk_alloc ?_ _)); exact BK109.out) hb); have n1_ := Aside0.mk (blk_below (g := gb110) (o := .cells #[.int .i64 a1_0, .int .i64 a1_1, .int .i64 a1_2, .int .i64 a1_3] 22 (0, 0)) (by (with_reducible repeat (first | refine blk_drewN ?_ _ | refine blk_drew ?_ | refine blk_alloc ?_ _)); exact BK110.out) hb); have n2_ := Aside0.mk (below_step (by repeat (first | (with_reducible first | exact HB.out | apply below_alloc | apply pw_below_drewN | apply below_drew1 | refine below_set ?_ GE109.out | refine below_set ?_ GE110.out) | exact HB.out)) hb); clear BK109; clear BK110; clear HB; have BK109 := n0_; have BK110 := n1_; have HB := n2_; clear n0_ n1_ n2_; (try clear hb); (try clear hb2); (try clear hk); (try clear hi)))
  go_ret
  exact ⟨by first | rfl | (simp [errW_none, errW_some] <;> rfl) | (simp [*, errW_none, errW_some] <;> rfl), by repeat (first | (with_reducible first | exact HB.out | apply below_alloc | apply pw_below_drewN | apply below_drew1 | refine below_set ?_ GE109.out | refine below_set ?_ GE110.out) | exact HB.out)⟩
/-! ### impl_within: function 64 -/
def impl_within.f (a0 : Int) (a1 : Int) (a2 : Int) : Option (Bool) := if a0 ≥ a1 then (some (decide (a0 ≤ a2))) else (some false)
set_option maxHeartbeats 8000000 in
set_option maxRecDepth 100000 in
theorem impl_within.calls (a0 : Int) (a1 : Int) (a2 : Int) (r : Bool) (w : World) (h : impl_within.f a0 a1 a2 = some r) :
  Calls Try.prog 64 #[.int .i64 a0, .int .i64 a1, .int .i64 a2] w fun e w' => e = .returned (.bool r) ∧ Drawn0 w w' := by
 have H : (if a0 ≥ a1 then (some (decide (a0 ≤ a2))) else (some false)) = some r := h
 clear h
 by_cases c4 : a0 ≥ a1
 ·rw [if_pos c4] at H
  have c4b0 : decide (a1 ≤ a0) = true := decide_eq_true c4
  clear c4
  obtain rfl := Option.some.inj H
  go_enter Try.func64, Try.ntmps64
  go_wp2
  go_ret
  exact ⟨by first | rfl | (simp; done) | (simp [*]; done), by repeat (first | exact Drawn0.refl _ | apply Drawn0.step)⟩
 ·rw [if_neg c4] at H
  have c4b0 : decide (a1 ≤ a0) = false := decide_eq_false c4
  clear c4
  obtain rfl := Option.some.inj H
  go_enter Try.func64, Try.ntmps64
  go_wp2
  go_ret
  exact ⟨by first | rfl | (simp; done) | (simp [*]; done), by repeat (first | exact Drawn0.refl _ | apply Drawn0.step)⟩
/-! ### impl_isSpan: function 54 -/
def impl_isSpan.f (a0 : Int) : Option (Bool) := (impl_within.f a0 1 60).bind fun t113 => (some t113)
set_option maxHeartbeats 8000000 in
set_option maxRecDepth 100000 in
theorem impl_isSpan.calls (a0 : Int) (r : Bool) (w : World) (h : impl_isSpan.f a0 = some r) :
  Calls Try.prog 54 #[.int .i64 a0] w fun e w' => e = .returned (.bool r) ∧ Drawn0 w w' := by
 have H : ((impl_within.f a0 1 60).bind fun t113 => (some t113)) = some r := h
 clear h
 replace H := Option.bind_eq_some_iff.mp H
 obtain ⟨t113, A20, H⟩ := H
 replace H : (some t113) = some r := H
 have A2 := Aside0.mk A20
 clear A20
 obtain rfl := Option.some.inj H
 go_enter Try.func54, Try.ntmps54
 go_wp2_with (first | ((with_reducible refine gate_callee (f := 64) rfl ?_); refine goesL_ (some 4) rfl rfl Try.func64 (by kernel_rfl) rfl #[.int .i64 a0, .int .i64 1, .int .i64 60] rfl (by (try simp only [List.map_toArray, List.map_cons, List.map_nil]); first | done | rfl | (simp only [List.length_drop, List.length_take]; rfl)) ?_; (with_reducible refine (impl_within.calls a0 1 60 t113 _ A2.out).mono ?_); rintro e w' ⟨rfl, ⟨nd, rfl⟩⟩; refine ⟨_, rfl, ?_⟩))
 go_ret
 exact ⟨by first | rfl | (simp; done) | (simp [*]; done), by repeat (first | exact Drawn0.refl _ | apply Drawn0.step)⟩
/-! ### spec_SpanWaits: function 24 -/
def spec_SpanWaits.f (a0_0 : Int) (a0_1 : Int) (a0_2 : Int) (a0_3 : Int) (a1 : Int) : Option (List Int × Bool) := (xL4Narrow.f a0_0 a0_1 a0_2 a0_3).bind fun t139 => (if t139 = true then ((spec_l4Span.f a1).bind fun t140 => (if t140 = true then ((xWaitsS.f a0_0 a0_1 a0_2 a0_3 a1).bind fun t141 => (some (t141, true))) else (some ((([] : List Int)), false)))) else (some ((([] : List Int)), false)))
set_option maxHeartbeats 8000000 in
set_option maxRecDepth 100000 in
theorem spec_SpanWaits.calls (a0_0 : Int) (a0_1 : Int) (a0_2 : Int) (a0_3 : Int) (a1 : Int) (r1 : List Int) (r2 : Bool) (w : World) (h : spec_SpanWaits.f a0_0 a0_1 a0_2 a0_3 a1 = some (r1, r2)) :
  Calls Try.prog 24 #[.agg #[.int .i64 a0_0, .int .i64 a0_1, .int .i64 a0_2, .int .i64 a0_3], .int .i64 a1] w fun e w' => ∃ v0_ : Value, e = .returned (.tuple #[v0_, .bool r2]) ∧ Kd.R (Kd.int .i64) 3 w' w.heap.size (fun _ => True) v0_ r1 ∧ Below w.heap.size w w' := by
 have hu27 := Try.underlying27
 have HB := Aside0.mk (Below.refl w.heap.size w)
 have H : ((xL4Narrow.f a0_0 a0_1 a0_2 a0_3).bind fun t139 => (if t139 = true then ((spec_l4Span.f a1).bind fun t140 => (if t140 = true then ((xWaitsS.f a0_0 a0_1 a0_2 a0_3 a1).bind fun t141 => (some (t141, true))) else (some ((([] : List Int)), false)))) else (some ((([] : List Int)), false)))) = some (r1, r2) := h
 clear h
 replace H := Option.bind_eq_some_iff.mp H
 obtain ⟨t139, A30, H⟩ := H
 replace H : (if t139 = true then ((spec_l4Span.f a1).bind fun t140 => (if t140 = true then ((xWaitsS.f a0_0 a0_1 a0_2 a0_3 a1).bind fun t141 => (some (t141, true))) else (some ((([] : List Int)), false)))) else (some ((([] : List Int)), false))) = some (r1, r2) := H
 have A3 := Aside0.mk A30
 clear A30
 by_cases c4 : t139 = true
 ·subst c4
  have H1 : ((spec_l4Span.f a1).bind fun t140 => (if t140 = true then ((xWaitsS.f a0_0 a0_1 a0_2 a0_3 a1).bind fun t141 => (some (t141, true))) else (some ((([] : List Int)), false)))) = some (r1, r2) := by rw [if_pos rfl] at H; exact H
  clear H
  have H := H1
  clear H1
  replace H := Option.bind_eq_some_iff.mp H
  obtain ⟨t140, A50, H⟩ := H
  replace H : (if t140 = true then ((xWaitsS.f a0_0 a0_1 a0_2 a0_3 a1).bind fun t141 => (some (t141, true))) else (some ((([] : List Int)), false))) = some (r1, r2) := H
  have A5 := Aside0.mk A50
  clear A50
  by_cases c6 : t140 = true
  ·subst c6
   have H1 : ((xWaitsS.f a0_0 a0_1 a0_2 a0_3 a1).bind fun t141 => (some (t141, true))) = some (r1, r2) := by rw [if_pos rfl] at H; exact H
   clear H
   have H := H1
   clear H1
   replace H := Option.bind_eq_some_iff.mp H
   obtain ⟨t141, A70, H⟩ := H
   replace H : (some (t141, true)) = some (r1, r2) := H
   have A7 := Aside0.mk A70
   clear A70
   simp only [Option.some.injEq, Prod.mk.injEq] at H
   obtain ⟨rfl, rfl⟩ := H
   go_enter Try.func24, Try.ntmps24
   go_wp2_with (first | ((with_reducible refine gate_dst (N := 2) rfl ?_); refine box_event ?hg (N := 2) ?hd (cs := #[.int .i64 a0_0, .int .i64 a0_1, .int .i64 a0_2, .int .i64 a0_3]) (t := 27) ?hr ?_; (case hd => rfl); (case hg => rfl); (case hr => first | (go_simp; done) | (go_simp; rfl)); intro gb138 hg w8 hbox hb; have n0_ := Aside0.mk (below_step (by repeat (first | (with_reducible first | exact HB.out | apply below_alloc | apply pw_below_drewN | apply below_drew1) | exact HB.out)) hb); have n1_ := Aside0.mk (hbox); have n2_ := Aside0.mk ((by rw [hg]; exact (below_size (by repeat (first | (with_reducible first | exact HB.out | apply below_alloc | apply pw_below_drewN | apply below_drew1) | exact HB.out))) : w.heap.size ≤ gb138)); have n3_ := Aside0.mk ((by rw [hg]; exact (below_size (by repeat (first | (with_reducible first | exact HB.out | apply below_alloc | apply pw_below_drewN | apply below_drew1) | exact HB.out))) : w.heap.size ≤ gb138)); clear HB; have HB := n0_; have BK138 := n1_; have GW138 := n2_; have GE138 := n3_; clear n0_ n1_ n2_ n3_; clear hb hbox hg; have hcz9_0 : w8.cell? ⟨gb138, 0, none⟩ = some (.int .i64 a0_0) := (blk_cell BK138.out 0).trans rfl; have hcz9_1 : w8.cell? ⟨gb138, 1, none⟩ = some (.int .i64 a0_1) := (blk_cell BK138.out 1).trans rfl; have hcz9_2 : w8.cell? ⟨gb138, 2, none⟩ = some (.int .i64 a0_2) := (blk_cell BK138.out 2).trans rfl; have hcz9_3 : w8.cell? ⟨gb138, 3, none⟩ = some (.int .i64 a0_3) := (blk_cell BK138.out 3).trans rfl; have hfz9_0 := blk_frozen BK138.out 0; have hfz9_1 := blk_frozen BK138.out 1; have hfz9_2 := blk_frozen BK138.out 2; have hfz9_3 := blk_frozen BK138.out 3) | ((with_reducible refine gate_callee (f := 44) rfl ?_); refine goesL_ (some 7) rfl rfl Try.func44 (by kernel_rfl) rfl #[.agg #[.int .i64 a0_0, .int .i64 a0_1, .int .i64 a0_2, .int .i64 a0_3]] rfl (by (try simp only [List.map_toArray, List.map_cons, List.map_nil]); first | done | rfl | (simp only [List.length_drop, List.length_take]; rfl)) ?_; (with_reducible refine (xL4Narrow.calls a0_0 a0_1 a0_2 a0_3 true _ A3.out).mono ?_); rintro e w10 ⟨rfl, hb⟩; refine ⟨_, rfl, ?_⟩; have n0_ := Aside0.mk (blk_below (g := gb138) (o := .cells #[.int .i64 a0_0, .int .i64 a0_1, .int .i64 a0_2, .int .i64 a0_3] 27 (0, 0)) (by (with_reducible repeat (first | refine blk_drewN ?_ _ | refine blk_drew ?_ | refine blk_alloc ?_ _)); exact BK138.out) hb); have n1_ := Aside0.mk (below_step (by repeat (first | (with_reducible first | exact HB.out | apply below_alloc | apply pw_below_drewN | apply below_drew1 | refine below_set ?_ GE138.out) | exact HB.out)) hb); clear BK138; clear HB; have BK138 := n0_; have HB := n1_; clear n0_ n1_; (try clear hb); (try clear hb2); (try clear hk); (try clear hi)) | (go_at_call 52; (with_reducible refine (spec_l4Span.calls a1 true _ A5.out).mono ?_); rintro e w' ⟨rfl, ⟨nd, rfl⟩⟩; have hcz11_0 : w10.cell? ⟨gb138, 0, none⟩ = some (.int .i64 a0_0) := (blk_cell BK138.out 0).trans rfl; have hcz11_1 : w10.cell? ⟨gb138, 1, none⟩ = some (.int .i64 a0_1) := (blk_cell BK138.out 1).trans rfl; have hcz11_2 : w10.cell? ⟨gb138, 2, none⟩ = some (.int .i64 a0_2) := (blk_cell BK138.out 2).trans rfl; have hcz11_3 : w10.cell? ⟨gb138, 3, none⟩ = some (.int .i64 a0_3) := (blk_cell BK138.out 3).trans rfl; have hfz11_0 := blk_frozen BK138.out 0; have hfz11_1 := blk_frozen BK138.out 1; have hfz11_2 := blk_frozen BK138.out 2; have hfz11_3 := blk_frozen BK138.out 3) | ((with_reducible refine gate_callee (f := 57) rfl ?_); refine goesL_ (some 17) rfl rfl Try.func57 (by kernel_rfl) rfl #[.agg #[.int .i64 a0_0, .int .i64 a0_1, .int .i64 a0_2, .int .i64 a0_3], .int .i64 a1] rfl (by (try simp only [List.map_toArray, List.map_cons, List.map_nil]); first | done | rfl | (simp only [List.length_drop, List.length_take]; rfl)) ?_; (with_reducible refine (xWaitsS.calls a0_0 a0_1 a0_2 a0_3 a1 t141 _ A7.out).mono ?_); rintro e w12 ⟨v142, rfl, ho0, hb⟩; refine ⟨_, rfl, ?_⟩; have n0_ := Aside0.mk (Kd.R_lower ho0 (below_size (by repeat (first | (with_reducible first | exact HB.out | apply below_alloc | apply pw_below_drewN | apply below_drew1 | refine below_set ?_ GE138.out) | exact HB.out)))); have n1_ := Aside0.mk (blk_below (g := gb138) (o := .cells #[.int .i64 a0_0, .int .i64 a0_1, .int .i64 a0_2, .int .i64 a0_3] 27 (0, 0)) (by (with_reducible repeat (first | refine blk_drewN ?_ _ | refine blk_drew ?_ | refine blk_alloc ?_ _)); exact BK138.out) hb); have n2_ := Aside0.mk (below_step (by repeat (first | (with_reducible first | exact HB.out | apply below_alloc | apply pw_below_drewN | apply below_drew1 | refine below_set ?_ GE138.out) | exact HB.out)) hb); clear BK138; clear HB; have HO143 := n0_; have BK138 := n1_; have HB := n2_; clear n0_ n1_ n2_; (try clear hb); (try clear hb2); (try clear hk); (try clear hi); (try clear ho0)))
   go_ret2
   exact ⟨_, by first | rfl | (simp [errW_none, errW_some] <;> rfl) | (simp [*, errW_none, errW_some] <;> rfl), by (with_reducible repeat (first | apply Kd.R_alloc | apply Kd.R_drewN | apply Kd.R_drew)); exact HO143.out, by repeat (first | (with_reducible first | exact HB.out | apply below_alloc | apply pw_below_drewN | apply below_drew1 | refine below_set ?_ GE138.out) | exact HB.out)⟩
  ·replace c6 := Bool.eq_false_iff.mpr c6
   subst c6
   have H1 : (some ((([] : List Int)), false)) = some (r1, r2) := by rw [if_neg (show ¬ (false = true) by decide)] at H; exact H
   clear H
   have H := H1
   clear H1
   obtain ⟨y144, hy144⟩ : ∃ y_ : List Int, y_ = (([] : List Int)) := ⟨_, rfl⟩
   replace H : (some (y144, false)) = some (r1, r2) := by first | (rw [hy144]; with_reducible exact H) | (have H2_ := (Option.bind_some _ _).symm.trans H; rw [hy144]; with_reducible exact H2_) | (have H2_ := (Option.bind_some _ _).symm.trans H; with_reducible exact H2_) | with_reducible exact H | (rw [hy144]; exact H) | exact H
   have Ny144 := Aside0.mk hy144
   clear hy144
   simp only [Option.some.injEq, Prod.mk.injEq] at H
   obtain ⟨rfl, rfl⟩ := H
   go_enter Try.func24, Try.ntmps24
   go_wp2_with (first | ((with_reducible refine gate_dst (N := 2) rfl ?_); refine box_event ?hg (N := 2) ?hd (cs := #[.int .i64 a0_0, .int .i64 a0_1, .int .i64 a0_2, .int .i64 a0_3]) (t := 27) ?hr ?_; (case hd => rfl); (case hg => rfl); (case hr => first | (go_simp; done) | (go_simp; rfl)); intro gb138 hg w13 hbox hb; have n0_ := Aside0.mk (below_step (by repeat (first | (with_reducible first | exact HB.out | apply below_alloc | apply pw_below_drewN | apply below_drew1) | exact HB.out)) hb); have n1_ := Aside0.mk (hbox); have n2_ := Aside0.mk ((by rw [hg]; exact (below_size (by repeat (first | (with_reducible first | exact HB.out | apply below_alloc | apply pw_below_drewN | apply below_drew1) | exact HB.out))) : w.heap.size ≤ gb138)); have n3_ := Aside0.mk ((by rw [hg]; exact (below_size (by repeat (first | (with_reducible first | exact HB.out | apply below_alloc | apply pw_below_drewN | apply below_drew1) | exact HB.out))) : w.heap.size ≤ gb138)); clear HB; have HB := n0_; have BK138 := n1_; have GW138 := n2_; have GE138 := n3_; clear n0_ n1_ n2_ n3_; clear hb hbox hg; have hcz14_0 : w13.cell? ⟨gb138, 0, none⟩ = some (.int .i64 a0_0) := (blk_cell BK138.out 0).trans rfl; have hcz14_1 : w13.cell? ⟨gb138, 1, none⟩ = some (.int .i64 a0_1) := (blk_cell BK138.out 1).trans rfl; have hcz14_2 : w13.cell? ⟨gb138, 2, none⟩ = some (.int .i64 a0_2) := (blk_cell BK138.out 2).trans rfl; have hcz14_3 : w13.cell? ⟨gb138, 3, none⟩ = some (.int .i64 a0_3) := (blk_cell BK138.out 3).trans rfl; have hfz14_0 := blk_frozen BK138.out 0; have hfz14_1 := blk_frozen BK138.out 1; have hfz14_2 := blk_frozen BK138.out 2; have hfz14_3 := blk_frozen BK138.out 3) | ((with_reducible refine gate_callee (f := 44) rfl ?_); refine goesL_ (some 7) rfl rfl Try.func44 (by kernel_rfl) rfl #[.agg #[.int .i64 a0_0, .int .i64 a0_1, .int .i64 a0_2, .int .i64 a0_3]] rfl (by (try simp only [List.map_toArray, List.map_cons, List.map_nil]); first | done | rfl | (simp only [List.length_drop, List.length_take]; rfl)) ?_; (with_reducible refine (xL4Narrow.calls a0_0 a0_1 a0_2 a0_3 true _ A3.out).mono ?_); rintro e w15 ⟨rfl, hb⟩; refine ⟨_, rfl, ?_⟩; have n0_ := Aside0.mk (blk_below (g := gb138) (o := .cells #[.int .i64 a0_0, .int .i64 a0_1, .int .i64 a0_2, .int .i64 a0_3] 27 (0, 0)) (by (with_reducible repeat (first | refine blk_drewN ?_ _ | refine blk_drew ?_ | refine blk_alloc ?_ _)); exact BK138.out) hb); have n1_ := Aside0.mk (below_step (by repeat (first | (with_reducible first | exact HB.out | apply below_alloc | apply pw_below_drewN | apply below_drew1 | refine below_set ?_ GE138.out) | exact HB.out)) hb); clear BK138; clear HB; have BK138 := n0_; have HB := n1_; clear n0_ n1_; (try clear hb); (try clear hb2); (try clear hk); (try clear hi)) | (go_at_call 52; (with_reducible refine (spec_l4Span.calls a1 false _ A5.out).mono ?_); rintro e w' ⟨rfl, ⟨nd, rfl⟩⟩) | ((with_reducible refine gate_dst (N := 14) rfl ?_); refine Kd.R_lit (Kd.int .i64) _ 3 ?hg (N := 14) ?hd (xs := ([] : List Int)) (inner := []) (ok := fun _ => True) (okp := fun _ => True) ?hr ?hp (fun _ hk => hk) trivial (Below.refl _ _) (Nat.le_refl _) (by simp) ?_; (case hd => rfl); (case hg => rfl); (case hr => first | (go_simp; done) | (go_simp; rfl)); (case hp => exact (Reps.none _ _)); intro v145 w16 ho17 hb hg_ hnew_; clear hg_ hnew_; (first | rw [← Ny144.out] at ho17 | (simp only [Int.reduceToNat] at ho17; rw [← Ny144.out] at ho17)); have n0_ := Aside0.mk (Kd.R_lower ho17 (below_size (by repeat (first | (with_reducible first | exact HB.out | apply below_alloc | apply pw_below_drewN | apply below_drew1 | refine below_set ?_ GE138.out) | exact HB.out)))); have n1_ := Aside0.mk (blk_below (g := gb138) (o := .cells #[.int .i64 a0_0, .int .i64 a0_1, .int .i64 a0_2, .int .i64 a0_3] 27 (0, 0)) (by (with_reducible repeat (first | refine blk_drewN ?_ _ | refine blk_drew ?_ | refine blk_alloc ?_ _)); exact BK138.out) hb); have n2_ := Aside0.mk (below_step (by repeat (first | (with_reducible first | exact HB.out | apply below_alloc | apply pw_below_drewN | apply below_drew1 | refine below_set ?_ GE138.out) | exact HB.out)) hb); clear BK138; clear HB; have HO146 := n0_; have BK138 := n1_; have HB := n2_; clear n0_ n1_ n2_; clear hb ho17))
   go_ret2
   exact ⟨_, by first | rfl | (simp [errW_none, errW_some] <;> rfl) | (simp [*, errW_none, errW_some] <;> rfl), by (with_reducible repeat (first | apply Kd.R_alloc | apply Kd.R_drewN | apply Kd.R_drew)); exact HO146.out, by repeat (first | (with_reducible first | exact HB.out | apply below_alloc | apply pw_below_drewN | apply below_drew1 | refine below_set ?_ GE138.out) | exact HB.out)⟩
 ·replace c4 := Bool.eq_false_iff.mpr c4
  subst c4
  have H1 : (some ((([] : List Int)), false)) = some (r1, r2) := by rw [if_neg (show ¬ (false = true) by decide)] at H; exact H
  clear H
  have H := H1
  clear H1
  obtain ⟨y147, hy147⟩ : ∃ y_ : List Int, y_ = (([] : List Int)) := ⟨_, rfl⟩
  replace H : (some (y147, false)) = some (r1, r2) := by first | (rw [hy147]; with_reducible exact H) | (have H2_ := (Option.bind_some _ _).symm.trans H; rw [hy147]; with_reducible exact H2_) | (have H2_ := (Option.bind_some _ _).symm.trans H; with_reducible exact H2_) | with_reducible exact H | (rw [hy147]; exact H) | exact H
  have Ny147 := Aside0.mk hy147
  clear hy147
  simp only [Option.some.injEq, Prod.mk.injEq] at H
  obtain ⟨rfl, rfl⟩ := H
  go_enter Try.func24, Try.ntmps24
  go_wp2_with (first | ((with_reducible refine gate_dst (N := 2) rfl ?_); refine box_event ?hg (N := 2) ?hd (cs := #[.int .i64 a0_0, .int .i64 a0_1, .int .i64 a0_2, .int .i64 a0_3]) (t := 27) ?hr ?_; (case hd => rfl); (case hg => rfl); (case hr => first | (go_simp; done) | (go_simp; rfl)); intro gb138 hg w18 hbox hb; have n0_ := Aside0.mk (below_step (by repeat (first | (with_reducible first | exact HB.out | apply below_alloc | apply pw_below_drewN | apply below_drew1) | exact HB.out)) hb); have n1_ := Aside0.mk (hbox); have n2_ := Aside0.mk ((by rw [hg]; exact (below_size (by repeat (first | (with_reducible first | exact HB.out | apply below_alloc | apply pw_below_drewN | apply below_drew1) | exact HB.out))) : w.heap.size ≤ gb138)); have n3_ := Aside0.mk ((by rw [hg]; exact (below_size (by repeat (first | (with_reducible first | exact HB.out | apply below_alloc | apply pw_below_drewN | apply below_drew1) | exact HB.out))) : w.heap.size ≤ gb138)); clear HB; have HB := n0_; have BK138 := n1_; have GW138 := n2_; have GE138 := n3_; clear n0_ n1_ n2_ n3_; clear hb hbox hg; have hcz19_0 : w18.cell? ⟨gb138, 0, none⟩ = some (.int .i64 a0_0) := (blk_cell BK138.out 0).trans rfl; have hcz19_1 : w18.cell? ⟨gb138, 1, none⟩ = some (.int .i64 a0_1) := (blk_cell BK138.out 1).trans rfl; have hcz19_2 : w18.cell? ⟨gb138, 2, none⟩ = some (.int .i64 a0_2) := (blk_cell BK138.out 2).trans rfl; have hcz19_3 : w18.cell? ⟨gb138, 3, none⟩ = some (.int .i64 a0_3) := (blk_cell BK138.out 3).trans rfl; have hfz19_0 := blk_frozen BK138.out 0; have hfz19_1 := blk_frozen BK138.out 1; have hfz19_2 := blk_frozen BK138.out 2; have hfz19_3 := blk_frozen BK138.out 3) | ((with_reducible refine gate_callee (f := 44) rfl ?_); refine goesL_ (some 7) rfl rfl Try.func44 (by kernel_rfl) rfl #[.agg #[.int .i64 a0_0, .int .i64 a0_1, .int .i64 a0_2, .int .i64 a0_3]] rfl (by (try simp only [List.map_toArray, List.map_cons, List.map_nil]); first | done | rfl | (simp only [List.length_drop, List.length_take]; rfl)) ?_; (with_reducible refine (xL4Narrow.calls a0_0 a0_1 a0_2 a0_3 false _ A3.out).mono ?_); rintro e w20 ⟨rfl, hb⟩; refine ⟨_, rfl, ?_⟩; have n0_ := Aside0.mk (blk_below (g := gb138) (o := .cells #[.int .i64 a0_0, .int .i64 a0_1, .int .i64 a0_2, .int .i64 a0_3] 27 (0, 0)) (by (with_reducible repeat (first | refine blk_drewN ?_ _ | refine blk_drew ?_ | refine blk_alloc ?_ _)); exact BK138.out) hb); have n1_ := Aside0.mk (below_step (by repeat (first | (with_reducible first | exact HB.out | apply below_alloc | apply pw_below_drewN | apply below_drew1 | refine below_set ?_ GE138.out) | exact HB.out)) hb); clear BK138; clear HB; have BK138 := n0_; have HB := n1_; clear n0_ n1_; (try clear hb); (try clear hb2); (try clear hk); (try clear hi)) | ((with_reducible refine gate_dst (N := 14) rfl ?_); refine Kd.R_lit (Kd.int .i64) _ 3 ?hg (N := 14) ?hd (xs := ([] : List Int)) (inner := []) (ok := fun _ => True) (okp := fun _ => True) ?hr ?hp (fun _ hk => hk) trivial (Below.refl _ _) (Nat.le_refl _) (by simp) ?_; (case hd => rfl); (case hg => rfl); (case hr => first | (go_simp; done) | (go_simp; rfl)); (case hp => exact (Reps.none _ _)); intro v148 w21 ho22 hb hg_ hnew_; clear hg_ hnew_; (first | rw [← Ny147.out] at ho22 | (simp only [Int.reduceToNat] at ho22; rw [← Ny147.out] at ho22)); have n0_ := Aside0.mk (Kd.R_lower ho22 (below_size (by repeat (first | (with_reducible first | exact HB.out | apply below_alloc | apply pw_below_drewN | apply below_drew1 | refine below_set ?_ GE138.out) | exact HB.out)))); have n1_ := Aside0.mk (blk_below (g := gb138) (o := .cells #[.int .i64 a0_0, .int .i64 a0_1, .int .i64 a0_2, .int .i64 a0_3] 27 (0, 0)) (by (with_reducible repeat (first | refine blk_drewN ?_ _ | refine blk_drew ?_ | refine blk_alloc ?_ _)); exact BK138.out) hb); have n2_ := Aside0.mk (below_step (by repeat (first | (with_reducible first | exact HB.out | apply below_alloc | apply pw_below_drewN | apply below_drew1 | refine below_set ?_ GE138.out) | exact HB.out)) hb); clear BK138; clear HB; have HO149 := n0_; have BK138 := n1_; have HB := n2_; clear n0_ n1_ n2_; clear hb ho22))
  go_ret2
  exact ⟨_, by first | rfl | (simp [errW_none, errW_some] <;> rfl) | (simp [*, errW_none, errW_some] <;> rfl), by (with_reducible repeat (first | apply Kd.R_alloc | apply Kd.R_drewN | apply Kd.R_drew)); exact HO149.out, by repeat (first | (with_reducible first | exact HB.out | apply below_alloc | apply pw_below_drewN | apply below_drew1 | refine below_set ?_ GE138.out) | exact HB.out)⟩
end Go.Proofs.Ytlhodfjdmafapaa.QAll
end
end
