/- FamilyOfWord, of the program and of the reference, as plain functions of lists. Conditions stand in each theorem. -/
import Derived.Test.YtlbhfbanbdahdaaWD
namespace Go.Proofs.Ytlbhfbanbdahdaa.Q
open Go.RowKit Go.Proofs.YtlbhfbanbdahdaaW.PrintWords Go.Proofs.YtlbhfbanbdahdaaW.PrintLast Go.Proofs.YtlbhfbanbdahdaaW.PrintMore Go.Proofs.YtlbhfbanbdahdaaM Go.Proofs.Ytlbhfbanbdahdaa.K
set_option linter.unusedVariables false
theorem spec_FamilyOfWord_is (w : List Int) (hw : w.length < 9223372036854775807) (k : Nat) (hk : 2 * w.length + 300 < k) : spec_FamilyOfWord.f k w = if okW w = true then some (upto (leastB (fallB w)) 64, true) else some ([], false) := by
  rw [spec_FamilyOfWord.f, l2Word_f w k hw (by omega), Option.bind_some]
  by_cases h : okW w = true
  · rw [if_pos h, if_pos h, l3Table_f w h k (by omega), Option.bind_some, l5Made_f _ k (by omega), Option.bind_some, made_eq _ (up_fall w)]
  · rw [if_neg h, if_neg h]
theorem impl_LeastFalls_is (w : List Int) (hw : w.length < 9223372036854775807) (k : Nat) (hk : w.length + 4700 < k) : impl_LeastFalls.f k w = if okW w = true then some (upto (leastB (fallB w)) 64, true) else some ([], false) := by
  rw [impl_LeastFalls.f, isWord_f w k hw (by omega), Option.bind_some]
  by_cases h : okW w = true
  · rw [if_pos h, if_pos h, fallTable_f w h k (by omega), Option.bind_some, leastOf_f _ k (by omega), Option.bind_some]
  · rw [if_neg h, if_neg h]
theorem impl_FamilyOfWord_is (w : List Int) (hw : w.length < 9223372036854775807) (k : Nat) (hk : w.length + 4700 < k) : impl_FamilyOfWord.f k w = if okW w = true then some (upto (leastB (fallB w)) 64, true) else some ([], false) := by
  rw [impl_FamilyOfWord.f, impl_LeastFalls_is w hw k hk]
  by_cases h : okW w = true
  · rw [if_pos h]; rfl
  · rw [if_neg h]; rfl
end Go.Proofs.Ytlbhfbanbdahdaa.Q
