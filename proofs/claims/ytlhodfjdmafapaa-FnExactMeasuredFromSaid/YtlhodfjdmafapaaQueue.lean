/- Maps whose elements are rows: words and laws at the operations. No statement of the seat is proved here. -/
import Derived.Test.YtlhodfjdmafapaaMaps
import Derived.Test.YtlhodfjdmafapaaWLast
import Derived.Test.YtlhodfjdmafapaaWMore
import Derived.Test.YtlhodfjdmafapaaWInvWords
namespace Go.Proofs.Ytlhodfjdmafapaa
open Go.RowKit Go.Maps Go.WideShapes Go.Proofs.YtlhodfjdmafapaaW.PrintWords Go.Proofs.YtlhodfjdmafapaaW.PrintLast
set_option linter.unusedVariables false
set_option linter.unusedSimpArgs false
/-- a row of a flat kind depends on its own block alone -/
def Flat {β : Type} (d : Kd β) : Prop := ∀ (w : World) (base : Nat) (ok1 ok2 : Nat → Prop) (x : β) (cs : List Value), d.M w base ok1 x cs → d.M w base ok2 x cs
theorem R_only {β : Type} {d : Kd β} (hd : Flat d) {e base : Nat} {ok : Nat → Prop} {w w1 : World} {v : Value} {xs : List β} (h : d.R e w base ok v xs) (hm : ∀ k, v.ownBlock = some k → w1.heap[k]? = w.heap[k]?) : d.R e w1 base ok v xs :=
  Kd.R_mono (Kd.R_move (Kd.R_flat (ok' := fun k => ok k ∧ v.ownBlock = some k) (fun {ok1 ok2 x cs} => hd w base ok1 ok2 x cs) h (fun k hk ho => ⟨ho, hk⟩)) (fun k hk => hm k hk.2)) (fun k hk => hk.1)
section
variable {P : Program} {k : TypeId} {α β : Type}
/-- a map of rows, each row its own block, one for which ok says yes -/
structure QL (M : MapKd P k α Value) (d : Kd β) (e : TypeId) (w : World) (b base : Nat) (ok : Nat → Prop) (n : Nat) (Q : α → List β) (L : List (α × Value)) : Prop where
  own : M.own w b n L
  row : ∀ p ∈ L, d.R e w base ok p.2 (Q p.1)
  none : ∀ x, getA L x = none → Q x = []
  apart : L.Pairwise fun p q => ∀ j, p.2.ownBlock = some j → q.2.ownBlock ≠ some j
section
variable {M : MapKd P k α Value} {d : Kd β} {e : TypeId} {w w' : World} {b base n : Nat} {ok : Nat → Prop} {Q : α → List β} {L : List (α × Value)}
theorem QL.below (h : QL M d e w b base ok n Q L) (hb : Below w.heap.size w w') : QL M d e w' b base ok n Q L :=
  ⟨MapKd.own_below h.own hb, fun p hp => Kd.R_below (h.row p hp) hb, h.none, h.apart⟩
/-- the row at x -/
theorem QL.at {x : α} {v : Value} (h : QL M d e w b base ok n Q L) (g : (getA L x).getD (.slice .none 0 0) = v) : d.R e w base ok v (Q x) := by
  subst g
  cases g : getA L x with
  | none => rw [h.none x g]; exact Kd.R_nil _ _ _ _ _
  | some v => exact h.row _ (getA_some g)
theorem QL.map {g : Nat} (h : QL M d e w b base ok n Q L) (hg : w.grownBy w' (some g)) (hne : g ≠ b) (hm : ∃ es c, w.heap[g]? = some (.map es c)) : QL M d e w' b base ok n Q L := by
  obtain ⟨es, c, hm⟩ := hm
  refine ⟨MapKd.own_kept h.own hg (fun e => hne (Option.some.inj e).symm), fun p hp => ?_, h.none, h.apart⟩
  have hr := h.row p hp
  refine Kd.R_mono (Kd.R_grown (Kd.R_mono (Kd.R_bound hr) (ok' := fun k => ok k ∧ k ≠ g) (fun j hj => ⟨hj.1, fun e => ?_⟩)) hg (fun j hj e => hj.2 (Option.some.inj e))) (fun _ hj => hj.1)
  obtain ⟨_, _, _, q, _, cells, hc⟩ := hj
  rw [e, hm] at hc
  cases hc
theorem QL.fence (h : QL M d e w b base ok n Q L) (a : Nat) (ha : w.heap.size ≤ a) : QL M d e w b base (fun j => ok j ∧ j ≠ a) n Q L :=
  ⟨h.own, fun p hp => Kd.R_elderB (h.row p hp) a ha, h.none, h.apart⟩
theorem QL.free {ok' : Nat → Prop} (h : QL M d e w b base ok n Q L) (hok : ∀ j, ok j → ok' j) : QL M d e w b base ok' n Q L :=
  ⟨h.own, fun p hp => Kd.R_mono (h.row p hp) hok, h.none, h.apart⟩
theorem QL.lt (h : QL M d e w b base ok n Q L) : b < w.heap.size := MapKd.own_lt h.own
theorem QL.is (h : QL M d e w b base ok n Q L) : ∃ es c, w.heap[b]? = some (.map es c) := MapKd.own_is h.own
theorem QL.mono {n' : Nat} (h : QL M d e w b base ok n Q L) (hn : n ≤ n') : QL M d e w b base ok n' Q L := ⟨MapKd.own_mono h.own hn, h.row, h.none, h.apart⟩
theorem QL.congr {Q' : α → List β} (h : QL M d e w b base ok n Q L) (hQ : ∀ x, Q x = Q' x) : QL M d e w b base ok n Q' L := (show Q = Q' from funext hQ) ▸ h
/-- a row that was there before -/
theorem QL.row_ne {x : α} {v : Value} (h : QL M d e w b base ok n Q L) (g : (getA L x).getD (.slice .none 0 0) = v) : v.ownBlock ≠ some b := fun e1 => by
  obtain ⟨cells, hc⟩ := Kd.R_typed (h.at g) b e1
  obtain ⟨es, c, hm⟩ := h.is
  rw [hc] at hm; cases hm
end
section ops
variable (w : World) {ops : Array Oper} {rest : List Oper} {o : Oper} {a : Act} {K : Exit → Act → World → Prop}
/-- 'm[k]', the row at k -/
theorem wpList_lookup_q (M : MapKd P k α Value) (d : Kd β) (hV : ∀ v, M.eV v = v) (hg : o.guard = none) (m x : Operand) (t : TypeId) (hop : o.op = Op.lookup t m x false)
    (E e : TypeId) (ht : P.underlying t = some (.map k E)) (hz : (zeroValue E).run P w = .ok (.slice none 0 0) w) (b base n : Nat) (ok : Nat → Prop) (Q : α → List β) (L : List (α × Value))
    (hm : a.eval m = .map (some b)) (h : QL M d e w b base ok n Q L) (key : α) (hx : a.eval x = M.eK key) (hgd : M.good key) (v : Value) (hv : (getA L key).getD (.slice none 0 0) = v)
    (hK : wpList P ops K rest (a.put o.dst v) w) :
    wpList P ops K (o :: rest) a w := by
  refine wpList_lookup_om w M hg m x t hop E ht (.slice none 0 0) (by rw [hV]; exact hz) b n L hm h.own key hx hgd ?_
  rw [hV, hv]
  exact hK
/-- 'm[k] = append(m[k], ..)', the update: W before the append, w behind it -/
theorem wpList_update_q (M : MapKd P k α Value) (d : Kd β) (hd : Flat d) (hV : ∀ v, M.eV v = v) (hg : o.guard = none) (m x v : Operand) (t : TypeId) (hop : o.op = Op.mapUpdate t m x v)
    (E e : TypeId) (ht : P.underlying t = some (.map k E)) (b base n : Nat) (ok : Nat → Prop) (Q Q' : α → List β) (hm : a.eval m = .map (some b))
    {W : World} {key : α} {u u1 : Value} {L : List (α × Value)} (h : QL M d e W b base ok n Q L) (hu : (getA L key).getD (.slice none 0 0) = u) (hgw : W.grownBy w u.ownBlock) (hat : u1.ownBlock = u.ownBlock ∨ ∃ j, u1.ownBlock = some j ∧ W.heap.size ≤ j) (hR : d.R e w base ok u1 (Q' key)) (hsame : ∀ y, y ≠ key → Q' y = Q y)
    (hn : n < maxLen) (hx : a.eval x = M.eK key) (hv : a.eval v = u1) (hgd : M.good key)
    (hK : ∀ w', QL M d e w' b base ok (n + 1) Q' (putA L key u1) → w.grownBy w' (some b) → w.heap.size = w'.heap.size → wpList P ops K rest (a.put o.dst undef) w') :
    wpList P ops K (o :: rest) a w := by
  have hub : u.ownBlock ≠ some b := h.row_ne hu
  have h1 : M.own w b n L := MapKd.own_kept h.own hgw (Ne.symm hub)
  have hlt : ∀ p ∈ L, ∀ j, p.2.ownBlock = some j → j < W.heap.size := fun p hp => Kd.R_lt (h.row p hp)
  have hne : ∀ p ∈ L, p.1 ≠ key → ∀ j, p.2.ownBlock = some j → u.ownBlock ≠ some j := fun p hp hpk j hj => by
    cases g : getA L key with
    | none => rw [g] at hu; subst hu; simp [Value.ownBlock]
    | some z =>
      rw [g] at hu
      have hu' : z = u := hu
      subst hu'
      have hz := getA_some g
      have : ∀ {l : List (α × Value)}, (l.Pairwise fun p q => ∀ j, p.2.ownBlock = some j → q.2.ownBlock ≠ some j) → p ∈ l → (key, z) ∈ l → z.ownBlock ≠ some j := by
        intro l
        induction l with
        | nil => intro _ h; cases h
        | cons a r ih =>
          intro hpw hp hz
          obtain ⟨p1, p2⟩ := List.pairwise_cons.1 hpw
          rcases List.mem_cons.1 hp with rfl | hp2
          · rcases List.mem_cons.1 hz with rfl | hz2
            · exact absurd rfl hpk
            · exact p1 _ hz2 j hj
          · rcases List.mem_cons.1 hz with rfl | hz2
            · intro e1
              exact p1 _ hp2 j e1 hj
            · exact ih p2 hp2 hz2
      exact this h.apart hp hz
  have hrow : ∀ p ∈ L, p.1 ≠ key → d.R e w base ok p.2 (Q p.1) := fun p hp hpk =>
    R_only hd (h.row p hp) (fun j hj => hgw.block j (hlt p hp j hj) (fun e1 => hne p hp hpk j hj e1.symm))
  have hu1 : ∀ p ∈ L, p.1 ≠ key → ∀ j, p.2.ownBlock = some j → u1.ownBlock ≠ some j := fun p hp hpk j hj e1 => by
    rcases hat with hat | ⟨i, hi, hle⟩
    · rw [hat] at e1; exact hne p hp hpk j hj e1
    · rw [hi] at e1
      have := hlt p hp j hj
      have := Option.some.inj e1
      omega
  refine wpList_update_om w M hg m x v t hop E ht b n L hm h1 hn key u1 hx (by rw [hV]; exact hv) hgd (fun w' r1 r2 r3 => hK w' ⟨r1, ?_, ?_, ?_⟩ r2 r3)
  · have hw' : ∀ (z : Value) (xs : List β), d.R e w base ok z xs → d.R e w' base ok z xs := fun z xs hz => R_only hd hz (fun j hj => r2.block j (Kd.R_lt hz j hj) (fun e1 => by
      obtain ⟨cells, hc⟩ := Kd.R_typed hz j hj
      obtain ⟨es, c, hm⟩ := MapKd.own_is h1
      rw [Option.some.inj e1, hm] at hc; cases hc))
    intro p hp
    rcases List.mem_cons.1 hp with rfl | hp
    · exact hw' _ _ hR
    · have hk := delA_keys key p hp
      rw [hsame _ hk]
      exact hw' _ _ (hrow p (List.mem_filter.1 hp).1 hk)
  · intro y hy
    rw [getA_put] at hy
    split at hy
    · cases hy
    · rename_i c
      rw [hsame y c]
      exact h.none y hy
  · refine List.pairwise_cons.2 ⟨fun p hp j hj e1 => ?_, h.apart.filter _⟩
    exact hu1 p (List.mem_filter.1 hp).1 (delA_keys key p hp) j e1 hj
/-- 'delete(m, k)' -/
theorem wpList_delete_q (M : MapKd P k α Value) (d : Kd β) (hd : Flat d) (hg : o.guard = none) (m x : Operand) (t : TypeId) (hop : o.op = Op.call { callee := Callee.builtin Builtin.delete, args := #[m, x], argTypes := #[t, k] })
    (E e : TypeId) (ht : P.underlying t = some (.map k E)) (b base n : Nat) (ok : Nat → Prop) (Q Q' : α → List β) (hm : a.eval m = .map (some b)) {L : List (α × Value)} (h : QL M d e w b base ok n Q L) (key : α) (hx : a.eval x = M.eK key) (hgd : M.good key)
    (hsame : ∀ y, y ≠ key → Q' y = Q y) (hnil : Q' key = [])
    (hK : ∀ w', QL M d e w' b base ok n Q' (delA L key) → w.grownBy w' (some b) → w.heap.size = w'.heap.size → wpList P ops K rest (a.put o.dst (.tuple #[])) w') :
    wpList P ops K (o :: rest) a w := by
  refine wpList_delete_om w M hg m x t hop E ht b n L hm h.own key hx hgd (fun w' r1 r2 r3 => hK w' ⟨r1, fun p hp => ?_, fun y hy => ?_, h.apart.filter _⟩ r2 r3)
  · have hk := delA_keys key p hp
    rw [hsame _ hk]
    have hz := h.row p (List.mem_filter.1 hp).1
    refine R_only hd hz (fun j hj => r2.block j (Kd.R_lt hz j hj) (fun e1 => ?_))
    obtain ⟨cells, hc⟩ := Kd.R_typed hz j hj
    obtain ⟨es, c, hm⟩ := MapKd.own_is h.own
    rw [Option.some.inj e1, hm] at hc; cases hc
  · rw [getA_del] at hy
    split at hy
    · rename_i c; rw [c, hnil]
    · rename_i c
      rw [hsame y c]
      exact h.none y hy
end ops
end
/-! rows of sands; maps from times to them -/
def k4 : Kd Sd := Kd.pair (Kd.int .i64) (Kd.pair (Kd.int .i64) (Kd.pair (Kd.int .i64) (Kd.int .i64)))
theorem flat4 : Flat k4 := fun _ _ _ _ _ _ h => h
theorem k4_open {w : World} {x : Sd} {cs : List Value} (h : k4.K w x cs) : cs = [.int .i64 x.1, .int .i64 x.2.1, .int .i64 x.2.2.1, .int .i64 x.2.2.2] := by
  obtain ⟨_, _, rfl, rfl, ⟨_, _, rfl, rfl, ⟨_, _, rfl, rfl, rfl⟩⟩⟩ := h
  exact rfl
theorem k4_mk (w : World) (x : Sd) : k4.K w x [.int .i64 x.1, .int .i64 x.2.1, .int .i64 x.2.2.1, .int .i64 x.2.2.2] := ⟨[.int .i64 x.1], [.int .i64 x.2.1, .int .i64 x.2.2.1, .int .i64 x.2.2.2], rfl, rfl, ⟨[.int .i64 x.2.1], [.int .i64 x.2.2.1, .int .i64 x.2.2.2], rfl, rfl, ⟨[.int .i64 x.2.2.1], [.int .i64 x.2.2.2], rfl, rfl, rfl⟩⟩⟩
theorem k4_mkM (w : World) (base : Nat) (ok : Nat → Prop) (x : Sd) : k4.M w base ok x [.int .i64 x.1, .int .i64 x.2.1, .int .i64 x.2.2.1, .int .i64 x.2.2.2] := ⟨[.int .i64 x.1], [.int .i64 x.2.1, .int .i64 x.2.2.1, .int .i64 x.2.2.2], rfl, rfl, ⟨[.int .i64 x.2.1], [.int .i64 x.2.2.1, .int .i64 x.2.2.2], rfl, rfl, ⟨[.int .i64 x.2.2.1], [.int .i64 x.2.2.2], rfl, rfl, rfl⟩⟩⟩
theorem at_k4 {w : World} {A : Option Addr} {n : Nat} {xs : List Sd} (h : Kd.C k4 w A n xs) (i : Nat) (s : Sd) (hs : xs[i]? = some s) : ∃ ad, A = some ad ∧ w.cell? (ad.add (i * 4)) = some (.int .i64 s.1) ∧ w.cell? ⟨(ad.add (i * 4)).block, (ad.add (i * 4)).off + 1, none⟩ = some (.int .i64 s.2.1) ∧ w.cell? ⟨(ad.add (i * 4)).block, (ad.add (i * 4)).off + 2, none⟩ = some (.int .i64 s.2.2.1) ∧ w.cell? ⟨(ad.add (i * 4)).block, (ad.add (i * 4)).off + 3, none⟩ = some (.int .i64 s.2.2.2) := by
  have hl : i < xs.length := by
    rcases Nat.lt_or_ge i xs.length with q | q
    · exact q
    · rw [List.getElem?_eq_none q] at hs; cases hs
  obtain ⟨ad, c, e, _, hK, hc0⟩ := Kd.C_get h (0, 0, 0, 0) (i : Int) (by omega) (by have := Kd.C_len h; omega)
  have hc : ∀ j u, c[j]? = some u → w.cell? (ad.add (i * 4 + j)) = some u := hc0
  rw [show xs.getD (i : Int).toNat (0, 0, 0, 0) = s by rw [Int.toNat_natCast, List.getD_eq_getElem?_getD, hs]; rfl] at hK
  obtain rfl := k4_open hK
  exact ⟨ad, e, hc 0 _ rfl, by rw [← add_field _ _ 1 (by omega)]; exact hc 1 _ rfl, by rw [← add_field _ _ 2 (by omega)]; exact hc 2 _ rfl, by rw [← add_field _ _ 3 (by omega)]; exact hc 3 _ rfl⟩
def mkT : MapKd Try.prog 3 Int Value where
  eK := fun t => .int .i64 t
  lK := fun t => .int .i64 t
  good := fun t => 0 ≤ t ∧ t ≤ 4000000000
  eV := fun v => v
  law := int_keyed Try.underlying3
  key := fun t h => keyOf_int_mk Try.underlying3 (WalkArith.wf_i64 (by omega))
  inj := fun x y _ _ e => by injection e
  vinj := fun _ _ e => e
end Go.Proofs.Ytlhodfjdmafapaa
