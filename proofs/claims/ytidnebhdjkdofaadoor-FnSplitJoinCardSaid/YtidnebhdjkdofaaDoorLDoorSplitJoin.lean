/- For all codes the strings that are drawn are split and joined back, lists are joined alike, and the order of strings is strict; the tables of unicode/utf8 hold what the program's text lays (tied). -/
import Derived.Test.YtidnebhdjkdofaaDoorRowL
import Derived.Test.YtidnebhdjkdofaaDoorRowB
import Derived.Test.YtidnebhdjkdofaaDoorSJ
import Derived.Test.YtidnebhdjkdofaaDoorCards
import Derived.Test.YtidnebhdjkdofaaDoorTie
import Derived.SevenTiedAt
import Derived.JoinedCond
namespace Go.Proofs.YtidnebhdjkdofaaDoor
namespace fnSplitJoin
open Go.ChangeShapes Go.WideShapes Go.ChangeAt Go.RowKit Go.Proofs.YtidnebhdjkdofaaDoorW.PrintWords
set_option linter.unusedVariables false
/-- the cells of a datum that is a row of numbers, or of rows of numbers -/
def cellsOfData : DataW Unit → Array Value
  | .agg ds => (ds.flatMap fun d => match d with | .lit (.int k n) => [Value.int k n] | .agg es => es.map (fun e => match e with | .lit (.int k n) => Value.int k n | _ => undef) | _ => []).toArray
  | _ => #[]
noncomputable def laidWorld (os : Os) : World :=
  let w0 := World.holding Tryd.prog os ⟨#[], #[], []⟩
  let put (h : Array Obj) (g : Nat) (cs : Array Value) : Array Obj := h.modify g fun
    | .cells _ t frozen => .cells cs t frozen
    | o => o
  let h1 := put w0.heap 5 (cellsOfData Rows.laid_unicode_utf8_acceptRanges)
  let h2 := put h1 4 (cellsOfData Rows.laid_unicode_utf8_first)
  { w0 with heap := h2 }
theorem laid_met (os : Os) (args : Array Value) : laidMet Tryd.prog Rows.fnSplitJoinRow.laid ((laidWorld os).forCall (fun _ _ => 0) ⟨#[], args, []⟩).memory :=
  laidMet_of_run' 8 (by kernel_rfl) (by kernel_rfl)
theorem witness_row (os : Os) {H : Type} (enc : TypeId × Value → H) :
    (OpenSpec.ofChange Rows.fnSplitJoinSpec).preRow enc Tryd.prog Tryd.f7 Rows.fnSplitJoinRow.domain false Rows.fnSplitJoinRow.laid ((laidWorld os).forCall (fun _ _ => 0) ⟨#[], #[.slice none 0 0], []⟩).memory #[.slice none 0 0] := by
  have hw : (DataW.whole enc Tryd.prog ((laidWorld os).forCall (fun _ _ => 0) ⟨#[], #[.slice none 0 0], []⟩).memory Tryd.f7.params.toList Rows.fnSplitJoinSpec.vars false #[Value.slice none 0 0].toList 8).map (fun x => (x.1, x.2.1)) =
      some ([.nil], []) := by kernel_rfl
  obtain ⟨⟨x1, x2, x3⟩, hx, hx1⟩ := Option.map_eq_some_iff.1 hw
  simp only [Prod.mk.injEq] at hx1
  obtain ⟨rfl, rfl⟩ := hx1
  exact OpenSpec.preRow_of_cond 8 hx (by kernel_rfl) (fun k hk => by cases hk) (by kernel_rfl) (laid_met os _)
set_option maxRecDepth 100000 in
theorem lifted (os : Os) (started : os.Started) (H : Type) (enc : TypeId × Value → H) (F : Stop.Interp) :
    ReturnsInHanded {} Tryd.checked os 7 .any ((OpenSpec.ofChange Rows.fnSplitJoinSpec).preRow enc Tryd.prog Tryd.f7 Rows.fnSplitJoinRow.domain false Rows.fnSplitJoinRow.laid) (((OpenSpec.ofChange Rows.fnSplitJoinSpec).at F).post enc Tryd.prog Tryd.f7 false true false false) :=
  law_lifted_row started own laidOut (by kernel_rfl) Tryd.func7 rfl
    (by intro ds h; match ds, h with | [_], _ => exact ⟨rfl, rfl, rfl⟩) (by kernel_rfl) rfl Tryd.underlying4
    (witness_row_at (enc := enc) (C := Tryd.checked) false (laidWorld os) #[.slice none 0 0] rfl (by kernel_rfl) (by kernel_rfl) (by kernel_rfl) (witness_row os enc))
    (fun W base args ds p hsz hval hA hlt hL hSh => by
      obtain ⟨v0, rfl⟩ := args1 hsz
      obtain ⟨A, cap, l, rfl, hC, hcap, hb⟩ := open_bytes_arg (j := 0) hA rfl rfl Tryd.underlying33 Tryd.underlying5 (by kernel_rfl) (hval 0 _ _ rfl rfl)
      exact lawSJ_any l hb A cap W hC hcap (ml_shaped hSh))
set_option maxRecDepth 100000 in
theorem over : Rows.fnSplitJoinRow.holds Tryd.pinned (OpenSpec.ofChange Rows.fnSplitJoinSpec) :=
  OpenClaim.holds_of_cond 7 Tryd.f7 rfl rfl rfl rfl rfl rfl rfl ⟨rfl, rfl, rfl, rfl, rfl⟩ rfl rfl rfl rfl rfl (by kernel_rfl) Tryd.func7 (by kernel_rfl)
    (of_decide_eq_true (by kernel_rfl)) (by unfold Func.isWrapper; first | (rw [if_pos (by decide +kernel)]; kernel_rfl) | (rw [if_neg (by decide +kernel)]; exact ⟨rfl, rfl⟩))
    (fun os started H enc _ F => by rw [OpenClaim.pre_eq_preRow]; exact lifted os started H enc F)
end fnSplitJoin
set_option maxRecDepth 100000 in
theorem fnSplitJoin_card_holds : Rows.FnSplitJoinCardSaid :=
  Claim7.holds_tied_plain_at .later [] [.data, .pinned] true (true, "423a47c2079c61ede537aa0fb6cc3cb5b0a6e49664fa95484ab97150ccaf82bd") true
    fnSplitJoin.over (fun _ h => by cases h) (by kernel_rfl) (fun _ h => by cases h) fnSplitJoin_row_tie rfl ⟨rfl, rfl⟩ (by kernel_rfl) rfl
    (fun f fn hf hfn => by
      obtain rfl : f = 7 := Option.some.inj ((show (Tryd.prog).funcNamed "loop.example/g01187/laws.FnSplitJoin" = some 7 by kernel_rfl).symm.trans hf) |>.symm
      obtain rfl : fn = Tryd.f7 := (Option.some.inj (Tryd.func7.symm.trans hfn)).symm
      exact ⟨by kernel_rfl, fun j t ht => by
        rw [show Tryd.f7.params = #[33] from rfl] at ht
        have h3 : t = 33 := by
          rcases j with _ | j
          · simpa using ht.symm
          · simp at ht
        subst h3
        exact (show (Tryd.prog).wantsStandIn 33 = false by kernel_rfl)⟩)
    (by kernel_rfl)
end Go.Proofs.YtidnebhdjkdofaaDoor
#print axioms Go.Proofs.YtidnebhdjkdofaaDoor.fnSplitJoin_card_holds
