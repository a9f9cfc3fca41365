/- KeyAt of the program returns what the reference's returns, for all arguments: within the bounds by running both in the kernel, outside them by the tests at the head of both. No condition. -/
import Derived.Test.YtajphpfbihilmaaPFnExactKeyAtx2
namespace Go.Proofs.Ytajphpfbihilmaa.PFnExactKeyAt
open Go.RowKit Go.Proofs.YtajphpfbihilmaaW.PrintWords Go.Proofs.YtajphpfbihilmaaW.PrintLast
set_option linter.unusedVariables false
set_option linter.unusedSimpArgs false
end Go.Proofs.Ytajphpfbihilmaa.PFnExactKeyAt
namespace Go.Proofs.Ytajphpfbihilmaa.Pure
open Go.RowKit Go.Proofs.Ytajphpfbihilmaa.PFnExactKeyAt Go.Proofs.YtajphpfbihilmaaW.PrintWords Go.Proofs.YtajphpfbihilmaaW.PrintLast
set_option linter.unusedVariables false
set_option linter.unusedSimpArgs false
theorem FnExactKeyAt_in : ((List.range 145).all fun (n : Nat) => laws_FnExactKeyAt.f 400 (n : Int) == some true) = true := by
  decide +kernel
theorem FnExactKeyAt_out (a0 : Int) (h : ¬ (0 ≤ a0 ∧ a0 ≤ 144)) : laws_FnExactKeyAt.f 400 a0 = some true := by
  have hs : spec_KeyAt.f 400 a0 = some ([], false) := by
    unfold spec_KeyAt.f spec_l1In.f
    by_cases h1 : a0 ≥ 0
    · have h2 : ¬ a0 ≤ 144 := by omega
      rw [if_pos h1, decide_eq_false h2]; rfl
    · rw [if_neg h1]; rfl
  have hi : impl_KeyAt.f 400 a0 = some ([], false) := by
    unfold impl_KeyAt.f
    by_cases h1 : a0 < 0
    · rw [if_pos h1]
    · rw [if_neg h1, if_pos (by omega)]
  have hm : laws_markIntS.f 399 [] 1 = some (1, []) := by decide +kernel
  have hh : laws_heldIntS.f 399 [] 1 = some 1 := by decide +kernel
  have he : laws_eqIntS.f 399 [] [] = some true := by decide +kernel
  have he' : laws_eqIntS.f 400 [] [] = some true := by decide +kernel
  have hh' : laws_heldIntS.f 398 [] 1 = some 1 := by decide +kernel
  have hi' : impl_KeyAt.f 399 a0 = some ([], false) := by
    unfold impl_KeyAt.f
    by_cases h1 : a0 < 0
    · rw [if_pos h1]
    · rw [if_neg h1, if_pos (by omega)]
  unfold laws_FnExactKeyAt.f
  rw [hs, Option.bind_some, hi, Option.bind_some, he', Option.bind_some]
  simp only [if_true, bne_self_eq_false]
  rw [laws_FnExactKeyAt.j0, if_neg Bool.false_ne_true, hm, Option.bind_some, hh, Option.bind_some]
  simp only [hi', Option.bind_some, he, if_true, bne_self_eq_false]
  rw [if_neg (by decide), laws_FnExactKeyAt.j1, if_neg Bool.false_ne_true, hh', Option.bind_some]
  rfl

/-- The program's KeyAt and the reference's agree at every number. -/
theorem FnExactKeyAt : laws_FnExactKeyAt.Pure := by
  intro a0 _
  refine ⟨400, ?_⟩
  by_cases h : 0 ≤ a0 ∧ a0 ≤ 144
  · obtain ⟨n, rfl⟩ := Int.eq_ofNat_of_zero_le h.1
    have := List.all_eq_true.1 FnExactKeyAt_in n (List.mem_range.2 (by omega))
    exact beq_iff_eq.1 this
  · exact FnExactKeyAt_out a0 h
end Go.Proofs.Ytajphpfbihilmaa.Pure
