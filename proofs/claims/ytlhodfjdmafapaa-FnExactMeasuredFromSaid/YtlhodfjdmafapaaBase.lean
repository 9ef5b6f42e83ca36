/- Plain words on four ints and on three; small lemmas on endings and worlds. No statement of the seat is proved here. -/
import Derived.WalkKit
import Derived.WalkSpells
import Derived.WalkLawsBesides
import Derived.BigQuiet
import Derived.Deep.QuietTactic
namespace Go.Proofs.Ytlhodfjdmafapaa
open Go.RowKit

def inB (lo hi n : Int) : Bool := decide (lo ≤ n) && decide (n ≤ hi)
theorem inB_t {lo hi n : Int} (h1 : lo ≤ n) : inB lo hi n = decide (n ≤ hi) := by simp [inB, h1]
theorem inB_f {lo hi n : Int} (h1 : n < lo) : inB lo hi n = false := by simp [inB]; omega
theorem inB_iff {lo hi n : Int} : inB lo hi n = true ↔ lo ≤ n ∧ n ≤ hi := by simp [inB]

@[simp] theorem lt_two (n : Nat) : n < n + 1 + 1 := by omega
@[simp] theorem lt_three (n : Nat) : n < n + 1 + 1 + 1 := by omega
@[simp] theorem lt_four (n : Nat) : n < n + 1 + 1 + 1 + 1 := by omega

/-- three cells of int, four, six -/
abbrev A3 (g : Nat → Int) : Value := .agg #[.int .i64 (g 0), .int .i64 (g 1), .int .i64 (g 2)]
abbrev A4 (g : Nat → Int) : Value := .agg #[.int .i64 (g 0), .int .i64 (g 1), .int .i64 (g 2), .int .i64 (g 3)]
abbrev A6 (g : Nat → Int) : Value := .agg #[.int .i64 (g 0), .int .i64 (g 1), .int .i64 (g 2), .int .i64 (g 3), .int .i64 (g 4), .int .i64 (g 5)]

theorem ret_bool {a b : Bool} (h : a = b) : Ending.returned (.bool a) = .returned (.bool b) := by rw [h]
theorem ret_int {a b : Int} (h : a = b) : Ending.returned (.int .i64 a) = .returned (.int .i64 b) := by rw [h]

theorem bcell {W w1 : World} (hb : Below W.heap.size W w1) : (∀ b o, b < W.heap.size → w1.cell? ⟨b, o, none⟩ = W.cell? ⟨b, o, none⟩) ∧ (∀ b o, b < W.heap.size → w1.frozen? ⟨b, o, none⟩ = W.frozen? ⟨b, o, none⟩) :=
  ⟨fun b o h => hb.cell (p := ⟨b, o, none⟩) h, fun b o h => hb.frozen (p := ⟨b, o, none⟩) h⟩

theorem bl_alloc {B : Nat} {a w : World} (o : Obj) (hB : B ≤ w.heap.size) (h : Below B a w) : Below B a (w.alloc o) := h.alloc hB o
theorem bl_set {B : Nat} {a w : World} {p : Addr} (u : Value) (hp : B ≤ p.block) (h : Below B a w) : Below B a (w.setCell p u) := h.setCell hp u

theorem bl_drewN {B : Nat} {a w : World} (n : Nat) (h : Below B a w) : Below B a (w.drewN n) := ⟨h.os, h.tape, h.output, h.size, h.block⟩
theorem quiet_add_left {P : Program} {f : FuncId} {args : Array Value} {w : World} {a n : Nat} {v : Value}
    (h : Calls P f args (w.drewN (a + n)) fun e w' => e = .returned v ∧ w.drewN (a + n) = w') :
    Calls P f args (w.drewN (a + n)) fun e w'' => e = .returned v ∧ ∃ m, w'' = w.drewN (a + m) :=
  h.mono fun _ _ ⟨he, hm⟩ => ⟨he, n, hm.symm⟩
theorem quiet_left {P : Program} {f : FuncId} {args : Array Value} {w : World} {n : Nat} {v : Value}
    (h : Calls P f args (w.drewN n) fun e w' => e = .returned v ∧ w.drewN n = w') : Calls P f args (w.drewN n) fun e w'' => e = .returned v ∧ ∃ m, w'' = w.drewN m :=
  h.mono fun _ _ ⟨he, hm⟩ => ⟨he, n, hm.symm⟩
/-- the product of the glasses, each plus one, as the code computes it -/
def prodOf (g : Nat → Int) : Int := wrap64 (wrap64 (wrap64 (wrap64 (wrap64 (g 0 + 1)) * wrap64 (g 1 + 1)) * wrap64 (g 2 + 1)) * wrap64 (g 3 + 1))

/-- the kit is valid -/
def isKitB (g : Nat → Int) : Bool := (inB 0 30 (g 0) && inB 0 30 (g 1) && inB 0 30 (g 2) && inB 0 30 (g 3)) && (decide (0 < g 0) || decide (0 < g 1) || decide (0 < g 2) || decide (0 < g 3))
/-- each sand lies within its glass -/
def isSandB (k s : Nat → Int) : Bool := inB 0 (k 0) (s 0) && inB 0 (k 1) (s 1) && inB 0 (k 2) (s 2) && inB 0 (k 3) (s 3)
/-- the set of all places that hold something -/
def allOf (g : Nat → Int) : Int := (if 0 < g 0 then 1 else 0) + (if 0 < g 1 then 2 else 0) + (if 0 < g 2 then 4 else 0) + (if 0 < g 3 then 8 else 0)
/-- a cell that is there is there behind a call that turns nothing that was there, behind a new block, behind a draw -/
theorem keep_below {W w1 : World} {a : Addr} {v : Value} (hb : Below W.heap.size W w1) (h : W.cell? a = some v) : w1.cell? a = some v :=
  (hb.cell (World.block_lt_of_cell? W a h)).trans h
theorem keep_alloc {W : World} {a : Addr} {v : Value} (o : Obj) (h : W.cell? a = some v) : (W.alloc o).cell? a = some v :=
  keep_below ((Below.refl _ _).alloc (Nat.le_refl _) o) h
theorem keep_drew {W : World} {a : Addr} {v : Value} (h : W.cell? a = some v) : W.drew.cell? a = some v := h
theorem keep_drewN {W : World} {a : Addr} {v : Value} (n : Nat) (h : W.cell? a = some v) : (W.drewN n).cell? a = some v := h
theorem there {W : World} {a : Addr} {v : Value} (h : W.cell? a = some v) : a.block < W.heap.size := World.block_lt_of_cell? W a h

theorem below_chain {w W w1 : World} (h : Below w.heap.size w W) (hb : Below W.heap.size W w1) : Below w.heap.size w w1 := h.trans (hb.mono h.size)

/-- a number is a set of glasses of a kit -/
def isSetB (k : Nat → Int) (set : Int) : Bool := inB 0 15 set && (bits BinOp.andNot IntKind.i64 set (allOf k) == 0)
/-- the four tests on a set, as the code makes them -/
def tb (set : Int) : Nat → Bool
  | 0 => bits BinOp.and IntKind.i64 set 1 == 1
  | 1 => bits BinOp.and IntKind.i64 (set / 2) 1 == 1
  | 2 => bits BinOp.and IntKind.i64 (set / 4) 1 == 1
  | _ => bits BinOp.and IntKind.i64 (set / 8) 1 == 1
def turnF (k s : Nat → Int) (set : Int) : Nat → Int := fun i => if tb set i = true then k i - s i else s i
def passF (s : Nat → Int) (d : Int) : Nat → Int := fun i => max (s i - d) 0
def nx (l n : Int) : Int := if 0 < n ∧ (l = 0 ∨ n < l) then n else l
def nextTo (s : Nat → Int) : Nat → Int
  | 0 => 0
  | j + 1 => nx (nextTo s j) (s j)
def nextF (s : Nat → Int) : Int := nextTo s 4
def stepD (k s : Nat → Int) (set : Int) : Int := nextF (turnF k s set)
def stepS (k s : Nat → Int) (set : Int) : Nat → Int := passF (turnF k s set) (stepD k s set)
/-- a function where a test says yes, else nothing -/
def opt (g : Nat → Int) (b : Bool) : Nat → Int := fun i => if b = true then g i else 0
def optI (n : Int) (b : Bool) : Int := if b = true then n else 0

def putF (k : Nat → Int) (i m : Int) : Nat → Int := fun j => if (j : Int) = i then m else k j
def scaleF (k : Nat → Int) (by' : Int) : Nat → Int := fun j => wrap64 (k j * by')
def gcdF (a b : Int) : Int := (Nat.gcd a.toNat b.toNat : Nat)
def gcdTo (k s : Nat → Int) : Nat → Int
  | 0 => 0
  | j + 1 => gcdF (gcdF (gcdTo k s j) (k j)) (s j)

/-- sand of a kit, both within their bounds -/
structure Sand (k s : Nat → Int) : Prop where
  lo : ∀ i, i < 4 → 0 ≤ s i
  hi : ∀ i, i < 4 → s i ≤ k i
  top : ∀ i, i < 4 → k i ≤ 30
theorem four {p : Nat → Prop} (h0 : p 0) (h1 : p 1) (h2 : p 2) (h3 : p 3) : ∀ i, i < 4 → p i := by
  intro i hi
  obtain rfl | rfl | rfl | rfl : i = 0 ∨ i = 1 ∨ i = 2 ∨ i = 3 := by omega
  all_goals assumption
theorem kit_bounds {k : Nat → Int} (h : isKitB k = true) : ∀ i, i < 4 → 0 ≤ k i ∧ k i ≤ 30 := by
  simp only [isKitB, Bool.and_eq_true, inB_iff] at h
  exact four h.1.1.1.1 h.1.1.1.2 h.1.1.2 h.1.2
theorem sand_of {k s : Nat → Int} (h : isKitB k = true) (h2 : isSandB k s = true) : Sand k s := by
  have hb := kit_bounds h
  simp only [isSandB, Bool.and_eq_true, inB_iff] at h2
  exact ⟨four h2.1.1.1.1 h2.1.1.2.1 h2.1.2.1 h2.2.1, four h2.1.1.1.2 h2.1.1.2.2 h2.1.2.2 h2.2.2, fun i hi => (hb i hi).2⟩
theorem Sand.turn {k s : Nat → Int} (h : Sand k s) (set : Int) : Sand k (turnF k s set) := by
  refine ⟨fun i hi => ?_, fun i hi => ?_, h.top⟩ <;> have h1 := h.lo i hi <;> have h2 := h.hi i hi <;> unfold turnF <;> split <;> omega
theorem Sand.pass {k s : Nat → Int} (h : Sand k s) {d : Int} (hd : 0 ≤ d) : Sand k (passF s d) := by
  refine ⟨fun i hi => ?_, fun i hi => ?_, h.top⟩ <;> have h1 := h.lo i hi <;> have h2 := h.hi i hi <;> unfold passF <;> omega
theorem nx_b {l n : Int} (hl : 0 ≤ l ∧ l ≤ 30) (h1 : n ≤ 30) : 0 ≤ nx l n ∧ nx l n ≤ 30 := by
  unfold nx; split <;> omega
theorem Sand.next {k s : Nat → Int} (h : Sand k s) : 0 ≤ nextF s ∧ nextF s ≤ 30 := by
  have t : ∀ i, i < 4 → s i ≤ 30 := fun i hi => by have := h.hi i hi; have := h.top i hi; omega
  exact nx_b (nx_b (nx_b (nx_b ⟨Int.le_refl 0, by simp [nextTo]⟩ (t 0 (by omega))) (t 1 (by omega))) (t 2 (by omega))) (t 3 (by omega))
theorem Sand.step {k s : Nat → Int} (h : Sand k s) (set : Int) : Sand k (stepS k s set) := (h.turn set).pass (h.turn set).next.1
theorem Sand.stepD {k s : Nat → Int} (h : Sand k s) (set : Int) : 0 ≤ stepD k s set ∧ stepD k s set ≤ 30 := (h.turn set).next
end Go.Proofs.Ytlhodfjdmafapaa
