/- Contract: how many bits a small number has. No statement of the seat is proved here. -/
import Derived.Test.YtlhodfjdmafapaaWWords
import Derived.WalkLawsBesides
import Derived.WalkSpells
import Derived.Test.YtlhodfjdmafapaaProg
namespace Go.Proofs.Ytlhodfjdmafapaa
open Go.RowKit Go.Proofs.YtlhodfjdmafapaaW.PrintWords
set_option linter.unusedVariables false
set_option linter.unusedSimpArgs false
def onesN : Nat → Int
  | 0 => 0 | 1 => 1 | 2 => 1 | 3 => 2 | 4 => 1 | 5 => 2 | 6 => 2 | 7 => 3 | 8 => 1 | 9 => 2 | 10 => 2 | 11 => 3 | 12 => 2 | 13 => 3 | 14 => 3 | _ => 4
def xOnes.f (a0 : Int) : Option Int := if 0 ≤ a0 ∧ a0 ≤ 15 then some (onesN a0.toNat) else none
theorem onesRet {a b : Int} (h : a = b) : Ending.returned (.int .i64 a) = .returned (.int .i64 b) := by rw [h]
set_option maxHeartbeats 1600000 in
theorem ones64_small (n : Nat) (hn : n ≤ 15) (w : World) : Calls Try.prog 127 #[.int .u64 (n : Int)] w fun e w' => e = .returned (.int .i64 (onesN n)) ∧ w = w' := by
  obtain rfl | rfl | rfl | rfl | rfl | rfl | rfl | rfl | rfl | rfl | rfl | rfl | rfl | rfl | rfl | rfl : n = 0 ∨ n = 1 ∨ n = 2 ∨ n = 3 ∨ n = 4 ∨ n = 5 ∨ n = 6 ∨ n = 7 ∨ n = 8 ∨ n = 9 ∨ n = 10 ∨ n = 11 ∨ n = 12 ∨ n = 13 ∨ n = 14 ∨ n = 15 := by omega
  all_goals
    go_enter Try.func127, Try.ntmps127
    go_wp2
    go_ret
    exact ⟨onesRet (by decide +kernel), rfl⟩
theorem xOnes.calls (a0 : Int) (r : Int) (w : World) (h : xOnes.f a0 = some r) : Calls Try.prog 116 #[.int .u64 a0] w fun e w' => e = .returned (.int .i64 r) ∧ Drawn0 w w' := by
  unfold xOnes.f at h
  by_cases c : 0 ≤ a0 ∧ a0 ≤ 15
  · rw [if_pos c] at h
    obtain rfl := Option.some.inj h
    obtain ⟨n, rfl⟩ := Int.eq_ofNat_of_zero_le c.1
    have hn : n ≤ 15 := by omega
    clear c h
    go_enter Try.func116, Try.ntmps116
    go_wp2_with fail
    refine (ones64_small n hn _).mono ?_
    rintro e w1 ⟨rfl, rfl⟩
    go_wp2_with fail
    go_ret
    exact ⟨rfl, Drawn0.refl _⟩
  · rw [if_neg c] at h; cases h
end Go.Proofs.Ytlhodfjdmafapaa
