/- For all strings and separators SplitString of the program and of the reference answer alike; the tables of unicode/utf8 hold what the program's text lays (tied). -/
import Derived.Test.YtidnebhdjkdofaaDoorRowL
import Derived.Test.YtidnebhdjkdofaaDoorRowT
import Derived.Test.YtidnebhdjkdofaaDoorSplitL
import Derived.Test.YtidnebhdjkdofaaDoorCards
import Derived.Test.YtidnebhdjkdofaaDoorTie
import Derived.SevenTiedAt
import Derived.JoinedCond
namespace Go.Proofs.YtidnebhdjkdofaaDoor
namespace fnExactSplitString
open Go.ChangeShapes Go.WideShapes Go.ChangeAt Go.RowKit Go.Proofs.YtidnebhdjkdofaaDoorW.PrintWords
set_option linter.unusedVariables false
/-- the cells of a datum that is a row of numbers, or of rows of numbers -/
def cellsOfData : DataW Unit → Array Value
  | .agg ds => (ds.flatMap fun d => match d with | .lit (.int k n) => [Value.int k n] | .agg es => es.map (fun e => match e with | .lit (.int k n) => Value.int k n | _ => undef) | _ => []).toArray
  | _ => #[]
noncomputable def laidWorld (os : Os) : World :=
  let w0 := World.holding Tryd.prog os ⟨#[], #[], []⟩
  let put (h : Array Obj) (g : Nat) (cs : Array Value) : Array Obj := h.modify g fun
    | .cells _ t frozen => .cells cs t frozen
    | o => o
  let h1 := put w0.heap 5 (cellsOfData Rows.laid_unicode_utf8_acceptRanges)
  let h2 := put h1 4 (cellsOfData Rows.laid_unicode_utf8_first)
  { w0 with heap := h2 }
theorem laid_met (os : Os) (args : Array Value) : laidMet Tryd.prog Rows.fnExactSplitStringRow.laid ((laidWorld os).forCall (fun _ _ => 0) ⟨#[], args, []⟩).memory :=
  laidMet_of_run' 8 (by kernel_rfl) (by kernel_rfl)
theorem witness_row (os : Os) {H : Type} (enc : TypeId × Value → H) :
    (OpenSpec.ofChange Rows.fnExactSplitStringSpec).preRow enc Tryd.prog Tryd.f4 Rows.fnExactSplitStringRow.domain false Rows.fnExactSplitStringRow.laid ((laidWorld os).forCall (fun _ _ => 0) ⟨#[], #[.string ⟨#[]⟩, .string ⟨#[]⟩], []⟩).memory #[.string ⟨#[]⟩, .string ⟨#[]⟩] := by
  have hw : (DataW.whole enc Tryd.prog ((laidWorld os).forCall (fun _ _ => 0) ⟨#[], #[.string ⟨#[]⟩, .string ⟨#[]⟩], []⟩).memory Tryd.f4.params.toList Rows.fnExactSplitStringSpec.vars false #[Value.string ⟨#[]⟩, Value.string ⟨#[]⟩].toList 8).map (fun x => (x.1, x.2.1)) =
      some ([.lit (.string []), .lit (.string [])], []) := by kernel_rfl
  obtain ⟨⟨x1, x2, x3⟩, hx, hx1⟩ := Option.map_eq_some_iff.1 hw
  simp only [Prod.mk.injEq] at hx1
  obtain ⟨rfl, rfl⟩ := hx1
  exact OpenSpec.preRow_of_cond 8 hx (by kernel_rfl) (fun k hk => by cases hk) (by kernel_rfl) (laid_met os _)
set_option maxRecDepth 100000 in
theorem lifted (os : Os) (started : os.Started) (H : Type) (enc : TypeId × Value → H) (F : Stop.Interp) :
    ReturnsInHanded {} Tryd.checked os 4 .any ((OpenSpec.ofChange Rows.fnExactSplitStringSpec).preRow enc Tryd.prog Tryd.f4 Rows.fnExactSplitStringRow.domain false Rows.fnExactSplitStringRow.laid) (((OpenSpec.ofChange Rows.fnExactSplitStringSpec).at F).post enc Tryd.prog Tryd.f4 false true false false) :=
  law_lifted_row started own laidOut (by kernel_rfl) Tryd.func4 rfl
    (by intro ds h; match ds, h with | [_, _], _ => exact ⟨rfl, rfl, rfl⟩) (by kernel_rfl) rfl Tryd.underlying4
    (witness_row_at (enc := enc) (C := Tryd.checked) false (laidWorld os) #[.string ⟨#[]⟩, .string ⟨#[]⟩] rfl (by kernel_rfl) (by kernel_rfl) (by kernel_rfl) (witness_row os enc))
    (fun W base args ds p hsz hval hA hlt hL hSh => by
      obtain ⟨v0, v1, rfl⟩ := args2 hsz
      obtain ⟨x, rfl, _⟩ := open_str_arg (j := 0) hA rfl rfl Tryd.underlying9 (hval 0 _ _ rfl rfl)
      obtain ⟨y, rfl, _⟩ := open_str_arg (j := 1) hA rfl rfl Tryd.underlying9 (hval 1 _ _ rfl rfl)
      exact lawSplit_any x y W (ml_shaped hSh))
set_option maxRecDepth 100000 in
theorem over : Rows.fnExactSplitStringRow.holds Tryd.pinned (OpenSpec.ofChange Rows.fnExactSplitStringSpec) :=
  OpenClaim.holds_of_cond 4 Tryd.f4 rfl rfl rfl rfl rfl rfl rfl ⟨rfl, rfl, rfl, rfl, rfl⟩ rfl rfl rfl rfl rfl (by kernel_rfl) Tryd.func4 (by kernel_rfl)
    (of_decide_eq_true (by kernel_rfl)) (by unfold Func.isWrapper; first | (rw [if_pos (by decide +kernel)]; kernel_rfl) | (rw [if_neg (by decide +kernel)]; exact ⟨rfl, rfl⟩))
    (fun os started H enc _ F => by rw [OpenClaim.pre_eq_preRow]; exact lifted os started H enc F)
end fnExactSplitString
set_option maxRecDepth 100000 in
theorem fnExactSplitString_card_holds : Rows.FnExactSplitStringCardSaid :=
  Claim7.holds_tied_plain_at .later [] [.data, .pinned] true (true, "423a47c2079c61ede537aa0fb6cc3cb5b0a6e49664fa95484ab97150ccaf82bd") true
    fnExactSplitString.over (fun _ h => by cases h) (by kernel_rfl) (fun _ h => by cases h) fnExactSplitString_row_tie rfl ⟨rfl, rfl⟩ (by kernel_rfl) rfl
    (fun f fn hf hfn => by
      obtain rfl : f = 4 := Option.some.inj ((show (Tryd.prog).funcNamed "loop.example/g01187/laws.FnExactSplitString" = some 4 by kernel_rfl).symm.trans hf) |>.symm
      obtain rfl : fn = Tryd.f4 := (Option.some.inj (Tryd.func4.symm.trans hfn)).symm
      exact ⟨by kernel_rfl, fun j t ht => by
        rw [show Tryd.f4.params = #[9, 9] from rfl] at ht
        have h3 : t = 9 := by
          rcases j with _ | _ | j
          · simpa using ht.symm
          · simpa using ht.symm
          · simp at ht
        subst h3
        exact (show (Tryd.prog).wantsStandIn 9 = false by kernel_rfl)⟩)
    (by kernel_rfl)
end Go.Proofs.YtidnebhdjkdofaaDoor
#print axioms Go.Proofs.YtidnebhdjkdofaaDoor.fnExactSplitString_card_holds
