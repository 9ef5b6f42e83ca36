/- Plain: steps from a sand, spans that are measured. No statement of the seat is proved here. -/
import Derived.Test.YtlhodfjdmafapaaPMet
namespace Go.Proofs.Ytlhodfjdmafapaa
open Go.RowKit
set_option linter.unusedVariables false
set_option linter.unusedSimpArgs false
abbrev Edge : Type := Sd × Int
def edgeAdd (k : Nat → Int) (x : Sd) (acc : List Edge) (set : Int) : List Edge := if 0 < goD k x set ∧ (goS k x set, goD k x set) ∉ acc then acc ++ [(goS k x set, goD k x set)] else acc
/-- the steps from a sand, each once -/
def edgesL (k : Nat → Int) (x : Sd) : List Edge := (setsL k).foldl (edgeAdd k x) []
theorem edge_fold {k : Nat → Int} {x : Sd} : ∀ (l : List Int) (acc : List Edge) (e : Edge), e ∈ l.foldl (edgeAdd k x) acc ↔ e ∈ acc ∨ ∃ set ∈ l, 0 < goD k x set ∧ e = (goS k x set, goD k x set)
  | [], acc, e => by simp
  | a :: l, acc, e => by
    rw [List.foldl_cons, edge_fold l]
    have h : e ∈ edgeAdd k x acc a ↔ e ∈ acc ∨ (0 < goD k x a ∧ e = (goS k x a, goD k x a)) := by
      unfold edgeAdd
      by_cases c : 0 < goD k x a ∧ (goS k x a, goD k x a) ∉ acc
      · rw [if_pos c, List.mem_append, List.mem_singleton]
        constructor
        · rintro (h | h)
          · exact .inl h
          · exact .inr ⟨c.1, h⟩
        · rintro (h | h)
          · exact .inl h
          · exact .inr h.2
      · rw [if_neg c]
        constructor
        · exact .inl
        · rintro (h | ⟨h1, h2⟩)
          · exact h
          · by_cases q : (goS k x a, goD k x a) ∈ acc
            · rw [h2]; exact q
            · exact absurd ⟨h1, q⟩ c
    rw [h]
    constructor
    · rintro ((h | h) | ⟨s, h1, h2⟩)
      · exact .inl h
      · exact .inr ⟨a, List.mem_cons_self, h⟩
      · exact .inr ⟨s, List.mem_cons_of_mem _ h1, h2⟩
    · rintro (h | ⟨s, h1, h2⟩)
      · exact .inl (.inl h)
      · rcases List.mem_cons.1 h1 with rfl | h1
        · exact .inl (.inr h2)
        · exact .inr ⟨s, h1, h2⟩
theorem edges_mem {k : Nat → Int} {x : Sd} {e : Edge} : e ∈ edgesL k x ↔ ∃ set ∈ setsL k, 0 < goD k x set ∧ e = (goS k x set, goD k x set) := by
  unfold edgesL
  rw [edge_fold]
  simp
theorem edgeAdd_len (k : Nat → Int) (x : Sd) (acc : List Edge) (a : Int) : (edgeAdd k x acc a).length ≤ acc.length + 1 := by
  unfold edgeAdd
  split <;> simp
theorem foldEdge_len {k : Nat → Int} {x : Sd} : ∀ (l : List Int) (acc : List Edge), (l.foldl (edgeAdd k x) acc).length ≤ acc.length + l.length
  | [], acc => by simp
  | a :: l, acc => by
    rw [List.foldl_cons]
    have h1 := foldEdge_len (k := k) (x := x) l (edgeAdd k x acc a)
    have h2 := edgeAdd_len k x acc a
    rw [List.length_cons]
    omega
theorem edges_len (k : Nat → Int) (x : Sd) : (edgesL k x).length ≤ 16 := by
  have h1 := foldEdge_len (k := k) (x := x) (setsL k) []
  have h2 := setsL_len k
  unfold edgesL
  simp only [List.length_nil] at h1
  omega
theorem edge_ok {k : Nat → Int} {x : Sd} (hx : Sand k (fn4 x)) {e : Edge} (he : e ∈ edgesL k x) : Sand k (fn4 e.1) ∧ 0 < e.2 ∧ e.2 ≤ 30 := by
  obtain ⟨set, h1, h2, rfl⟩ := edges_mem.1 he
  exact ⟨sand_tup (hx.step set), h2, (hx.stepD set).2⟩
/-! bits -/
/-- does a step lead from x to a sand from which the rest of the span is measured (by the bits of the spans before)? -/
def hitB (B : Sd → Nat) (t : Nat) (e : Edge) : Bool := decide (e.2 ≤ (t : Int)) && decide (B e.1 / 2 ^ (t - e.2.toNat) % 2 = 1)
def bvN (k : Nat → Int) : Nat → Sd → Nat
  | 0, _ => 1
  | t + 1, x => bvN k t x + if (edgesL k x).any (hitB (bvN k t) (t + 1)) = true then 2 ^ (t + 1) else 0
theorem bv_lt (k : Nat → Int) : ∀ (t : Nat) (x : Sd), bvN k t x < 2 ^ (t + 1)
  | 0, x => by simp [bvN]
  | t + 1, x => by
    have := bv_lt k t x
    rw [bvN, Nat.pow_succ 2 (t + 1)]
    split <;> omega
theorem bit_add {v t u : Nat} (h : u < t) : (v + 2 ^ t) / 2 ^ u % 2 = v / 2 ^ u % 2 := by
  obtain ⟨d, rfl⟩ : ∃ d, t = u + (d + 1) := ⟨t - u - 1, by omega⟩
  rw [Nat.pow_add, Nat.mul_comm, Nat.add_mul_div_right _ _ (Nat.two_pow_pos u), Nat.pow_succ, Nat.mul_comm (2 ^ d) 2, Nat.add_mul_mod_self_left]
theorem bv_bit (k : Nat → Int) (t : Nat) (x : Sd) {u : Nat} (h : u ≤ t) : bvN k (t + 1) x / 2 ^ u % 2 = bvN k t x / 2 ^ u % 2 := by
  rw [bvN]
  split
  · exact bit_add (by omega)
  · rfl
theorem bv_bits (k : Nat → Int) (x : Sd) {u : Nat} : ∀ (d : Nat), bvN k (u + d) x / 2 ^ u % 2 = bvN k u x / 2 ^ u % 2
  | 0 => rfl
  | d + 1 => by rw [show u + (d + 1) = (u + d) + 1 by omega, bv_bit k (u + d) x (by omega), bv_bits k x d]
/-- the span is measured from the sand -/
def mB (k : Nat → Int) (t : Nat) (x : Sd) : Bool := decide (bvN k t x / 2 ^ t % 2 = 1)
theorem mB_zero (k : Nat → Int) (x : Sd) : mB k 0 x = true := by simp [mB, bvN]
theorem bit_mB (k : Nat → Int) (x : Sd) {u t : Nat} (h : u ≤ t) : decide (bvN k t x / 2 ^ u % 2 = 1) = mB k u x := by
  obtain ⟨d, rfl⟩ : ∃ d, t = u + d := ⟨t - u, by omega⟩
  rw [bv_bits k x d]
  rfl
theorem hit_mB {k : Nat → Int} {t : Nat} {e : Edge} (h0 : 0 < e.2) : hitB (bvN k t) (t + 1) e = (decide (e.2 ≤ (t : Int) + 1) && mB k (t + 1 - e.2.toNat) e.1) := by
  unfold hitB
  rw [bit_mB k e.1 (show t + 1 - e.2.toNat ≤ t by omega)]
  rfl
theorem mB_succ {k : Nat → Int} (t : Nat) (x : Sd) : mB k (t + 1) x = (edgesL k x).any (hitB (bvN k t) (t + 1)) := by
  have hlt := bv_lt k t x
  unfold mB
  rw [bvN]
  split
  · rename_i c
    rw [c, Nat.add_div_right _ (Nat.two_pow_pos _), Nat.div_eq_of_lt hlt]
    rfl
  · rename_i c
    rw [Nat.add_zero, Nat.div_eq_of_lt hlt]
    rw [show (edgesL k x).any (hitB (bvN k t) (t + 1)) = false by simpa using c]
    rfl
/-! which sands are looked at -/
abbrev keyIn (O : List (Sd × Int)) (x : Sd) : Prop := ∃ v, (x, v) ∈ O
structure SInv (k : Nat → Int) (s0 : Sd) (O : List (Sd × Int)) (l : List Sd) (i : Nat) (x : Sd) (rest : List Edge) : Prop where
  nd : Nd O
  one : ∀ p ∈ O, p.2 = 1 ∧ Sand k (fn4 p.1)
  list : ∀ s ∈ l, Sand k (fn4 s)
  start : keyIn O s0 ∨ s0 ∈ l.drop i
  next : ∀ y, keyIn O y → ∀ e ∈ edgesL k y, (y = x ∧ e ∈ rest) ∨ keyIn O e.1 ∨ e.1 ∈ l.drop i
  len : l.length + rest.length ≤ 1 + 16 * O.length
  cur : rest = [] ∨ (keyIn O x ∧ ∀ e ∈ rest, e ∈ edgesL k x)
theorem few31s {k : Nat → Int} (hk : ∀ i, i < 4 → 0 ≤ k i ∧ k i ≤ 30) {β : Type} {M : List (Sd × β)} (hn : Nd M) (hr : ∀ p ∈ M, Sand k (fn4 p.1)) : M.length ≤ 923521 := by
  have := few_nats 923521 (M.map fun e => (((e.1.1 * 31 + e.1.2.1) * 31 + e.1.2.2.1) * 31 + e.1.2.2.2).toNat) (by
    unfold List.Nodup
    rw [List.pairwise_map]
    refine List.Pairwise.imp_of_mem ?_ hn
    rintro ⟨⟨a0, a1, a2, a3⟩, t⟩ ⟨⟨b0, b1, b2, b3⟩, u⟩ hp hq hne e
    have ha := hr _ hp
    have hb := hr _ hq
    have p0 : 0 ≤ a0 ∧ a0 ≤ k 0 ∧ k 0 ≤ 30 := ⟨ha.lo 0 (by omega), ha.hi 0 (by omega), ha.top 0 (by omega)⟩
    have p1 : 0 ≤ a1 ∧ a1 ≤ k 1 ∧ k 1 ≤ 30 := ⟨ha.lo 1 (by omega), ha.hi 1 (by omega), ha.top 1 (by omega)⟩
    have p2 : 0 ≤ a2 ∧ a2 ≤ k 2 ∧ k 2 ≤ 30 := ⟨ha.lo 2 (by omega), ha.hi 2 (by omega), ha.top 2 (by omega)⟩
    have p3 : 0 ≤ a3 ∧ a3 ≤ k 3 ∧ k 3 ≤ 30 := ⟨ha.lo 3 (by omega), ha.hi 3 (by omega), ha.top 3 (by omega)⟩
    have q0 : 0 ≤ b0 ∧ b0 ≤ k 0 := ⟨hb.lo 0 (by omega), hb.hi 0 (by omega)⟩
    have q1 : 0 ≤ b1 ∧ b1 ≤ k 1 := ⟨hb.lo 1 (by omega), hb.hi 1 (by omega)⟩
    have q2 : 0 ≤ b2 ∧ b2 ≤ k 2 := ⟨hb.lo 2 (by omega), hb.hi 2 (by omega)⟩
    have q3 : 0 ≤ b3 ∧ b3 ≤ k 3 := ⟨hb.lo 3 (by omega), hb.hi 3 (by omega)⟩
    apply hne
    simp only at e
    show (a0, a1, a2, a3) = (b0, b1, b2, b3)
    have e3 : a3 = b3 := by omega
    have e2 : a2 = b2 := by omega
    have e1 : a1 = b1 := by omega
    have e0 : a0 = b0 := by omega
    rw [e0, e1, e2, e3]) (fun x hx => by
    obtain ⟨⟨⟨a0, a1, a2, a3⟩, t⟩, he, rfl⟩ := List.mem_map.1 hx
    have ha := hr _ he
    have p0 : 0 ≤ a0 ∧ a0 ≤ k 0 ∧ k 0 ≤ 30 := ⟨ha.lo 0 (by omega), ha.hi 0 (by omega), ha.top 0 (by omega)⟩
    have p1 : 0 ≤ a1 ∧ a1 ≤ k 1 ∧ k 1 ≤ 30 := ⟨ha.lo 1 (by omega), ha.hi 1 (by omega), ha.top 1 (by omega)⟩
    have p2 : 0 ≤ a2 ∧ a2 ≤ k 2 ∧ k 2 ≤ 30 := ⟨ha.lo 2 (by omega), ha.hi 2 (by omega), ha.top 2 (by omega)⟩
    have p3 : 0 ≤ a3 ∧ a3 ≤ k 3 ∧ k 3 ≤ 30 := ⟨ha.lo 3 (by omega), ha.hi 3 (by omega), ha.top 3 (by omega)⟩
    simp only
    omega)
  simpa using this
section
variable {k : Nat → Int} {s0 : Sd} {O : List (Sd × Int)} {l : List Sd} {i : Nat} {x : Sd} {rest : List Edge}
theorem SInv.begin (hs : Sand k (fn4 s0)) : SInv k s0 [] [s0] 0 s0 [] :=
  ⟨List.Pairwise.nil, fun p hp => absurd hp List.not_mem_nil, fun s h => by rw [List.mem_singleton.1 h]; exact hs, .inr List.mem_cons_self, fun y ⟨v, h⟩ => absurd h List.not_mem_nil, by simp, .inl rfl⟩
theorem drop_next {l : List Sd} {n : Nat} {a b : Sd} (h0 : l[n]? = some b) (h : a ∈ l.drop n) : a = b ∨ a ∈ l.drop (n + 1) := by
  have hl : n < l.length := by
    rcases Nat.lt_or_ge n l.length with q | q
    · exact q
    · rw [List.getElem?_eq_none q] at h0; cases h0
  rw [List.drop_eq_getElem_cons hl] at h
  have e : l[n] = b := by rw [List.getElem?_eq_getElem hl] at h0; exact Option.some.inj h0
  rw [e] at h
  exact List.mem_cons.1 h
theorem SInv.skip (h : SInv k s0 O l i x []) {s : Sd} (hs : l[i]? = some s) (hk : keyIn O s) : SInv k s0 O l (i + 1) x [] :=
  ⟨h.nd, h.one, h.list, by
    rcases h.start with c | c
    · exact .inl c
    · rcases drop_next hs c with rfl | c
      · exact .inl hk
      · exact .inr c, fun y hy e he => by
    rcases h.next y hy e he with ⟨_, c⟩ | c | c
    · exact absurd c List.not_mem_nil
    · exact .inr (.inl c)
    · rcases drop_next hs c with c | c
      · exact .inr (.inl (by rw [c]; exact hk))
      · exact .inr (.inr c), h.len, .inl rfl⟩
theorem SInv.take (h : SInv k s0 O l i x []) {s : Sd} (hs : l[i]? = some s) (hg : getA O s = none) : SInv k s0 (putA O s 1) l (i + 1) s (edgesL k s) := by
  have e := putA_absent (y := (1 : Int)) hg
  have hlen : (putA O s 1).length = O.length + 1 := by rw [e]; rfl
  have hself : keyIn (putA O s 1) s := ⟨1, by rw [e]; exact List.mem_cons_self⟩
  have hold : ∀ y, keyIn O y → keyIn (putA O s 1) y := fun y ⟨v, hv⟩ => ⟨v, by rw [e]; exact List.mem_cons_of_mem _ hv⟩
  refine ⟨putA_nodup h.nd s 1, fun p hp => ?_, h.list, ?_, fun y hy e2 he => ?_, ?_, .inr ⟨hself, fun _ hh => hh⟩⟩
  · rw [e] at hp
    rcases List.mem_cons.1 hp with rfl | hp
    · exact ⟨rfl, h.list _ (List.mem_of_getElem? hs)⟩
    · exact h.one p hp
  · rcases h.start with c | c
    · exact .inl (hold _ c)
    · rcases drop_next hs c with rfl | c
      · exact .inl hself
      · exact .inr c
  · by_cases q : y = s
    · rw [q] at he; exact .inl ⟨q, he⟩
    · have hy2 : keyIn O y := by
        obtain ⟨v, hv⟩ := hy
        rw [e] at hv
        rcases List.mem_cons.1 hv with hv | hv
        · exact absurd (Prod.mk.inj hv).1 q
        · exact ⟨v, hv⟩
      rcases h.next y hy2 e2 he with ⟨_, c⟩ | c | c
      · exact absurd c List.not_mem_nil
      · exact .inr (.inl (hold _ c))
      · rcases drop_next hs c with c | c
        · exact .inr (.inl (by rw [c]; exact hself))
        · exact .inr (.inr c)
  · rw [hlen]
    have h1 := h.len
    have h2 := edges_len k s
    simp only [List.length_nil] at h1
    omega
theorem SInv.drop {e : Edge} (h : SInv k s0 O l i x (e :: rest)) (hk : keyIn O e.1) : SInv k s0 O l i x rest :=
  ⟨h.nd, h.one, h.list, h.start, fun y hy e2 he => by
    rcases h.next y hy e2 he with ⟨c1, c2⟩ | c | c
    · rcases List.mem_cons.1 c2 with c2 | c2
      · exact .inr (.inl (by rw [c2]; exact hk))
      · exact .inl ⟨c1, c2⟩
    · exact .inr (.inl c)
    · exact .inr (.inr c), by have := h.len; simp only [List.length_cons] at this; omega, by
    rcases h.cur with c | c
    · cases c
    · exact .inr ⟨c.1, fun e2 he => c.2 e2 (List.mem_cons_of_mem _ he)⟩⟩
theorem SInv.push {e : Edge} (h : SInv k s0 O l i x (e :: rest)) (hi : i ≤ l.length) : SInv k s0 O (l ++ [e.1]) i x rest := by
  obtain ⟨c1, c2⟩ := h.cur.resolve_left (by simp)
  obtain ⟨v, hv⟩ := c1
  have hS := (h.one _ hv).2
  have hmono : ∀ y, y ∈ l.drop i → y ∈ (l ++ [e.1]).drop i := fun y hy => by
    rw [List.drop_append_of_le_length hi]
    exact List.mem_append_left _ hy
  refine ⟨h.nd, h.one, fun s hs => ?_, ?_, fun y hy e2 he => ?_, ?_, .inr ⟨⟨v, hv⟩, fun e2 he => c2 e2 (List.mem_cons_of_mem _ he)⟩⟩
  · rcases List.mem_append.1 hs with hs | hs
    · exact h.list s hs
    · rw [List.mem_singleton.1 hs]
      exact (edge_ok hS (c2 e List.mem_cons_self)).1
  · rcases h.start with c | c
    · exact .inl c
    · exact .inr (hmono _ c)
  · rcases h.next y hy e2 he with ⟨d1, d2⟩ | c | c
    · rcases List.mem_cons.1 d2 with d2 | d2
      · refine .inr (.inr ?_)
        rw [d2, List.drop_append_of_le_length hi]
        exact List.mem_append_right _ List.mem_cons_self
      · exact .inl ⟨d1, d2⟩
    · exact .inr (.inl c)
    · exact .inr (.inr (hmono _ c))
  · have := h.len
    simp only [List.length_cons] at this
    rw [List.length_append, List.length_cons, List.length_nil]
    omega
theorem SInv.any (h : SInv k s0 O l i x []) (y : Sd) : SInv k s0 O l i y [] :=
  ⟨h.nd, h.one, h.list, h.start, fun z hz e he => (h.next z hz e he).imp (fun c => absurd c.2 List.not_mem_nil) (fun c => c), h.len, .inl rfl⟩
/-- the sands that are looked at: closed under steps -/
structure SDone (k : Nat → Int) (s0 : Sd) (O : List (Sd × Int)) : Prop where
  nd : Nd O
  sand : ∀ p ∈ O, Sand k (fn4 p.1)
  start : keyIn O s0
  next : ∀ y, keyIn O y → ∀ e ∈ edgesL k y, keyIn O e.1
theorem SInv.finish (h : SInv k s0 O l i x []) (hi : l.length ≤ i) : SDone k s0 O := by
  have hd : l.drop i = [] := List.drop_eq_nil_of_le hi
  refine ⟨h.nd, fun p hp => (h.one p hp).2, ?_, fun y hy e he => ?_⟩
  · rcases h.start with c | c
    · exact c
    · rw [hd] at c; exact absurd c List.not_mem_nil
  · rcases h.next y hy e he with ⟨_, c⟩ | c | c
    · exact absurd c List.not_mem_nil
    · exact c
    · rw [hd] at c; exact absurd c List.not_mem_nil
end
end Go.Proofs.Ytlhodfjdmafapaa
