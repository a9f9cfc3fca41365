/- SetWord of the program returns what the reference's returns, for all arguments, and hands out a slice of its own each time: the 64 sets are run in the kernel, every other number is refused by both. No condition. -/
import Derived.Test.YtajphpfbihilmaaPFnExactSetWordx2
namespace Go.Proofs.Ytajphpfbihilmaa.Pure
open Go.RowKit Go.Proofs.Ytajphpfbihilmaa.PFnExactSetWord Go.Proofs.YtajphpfbihilmaaW.PrintWords Go.Proofs.YtajphpfbihilmaaW.PrintLast

theorem FnExactSetWord_in : ∀ n : Fin 64, laws_FnExactSetWord.f 20 (n.val : Int) = some true := by
  decide +kernel

theorem FnExactSetWord_out (a0 : Int) (h : ¬ (0 ≤ a0 ∧ a0 < 64)) : laws_FnExactSetWord.f 20 a0 = some true := by
  have hs : spec_SetWord.f 20 a0 = some ([], false) := by
    unfold spec_SetWord.f spec_l3Set.f spec_l1In.f
    by_cases h1 : 0 ≤ a0
    · have h2 : ¬ a0 ≤ 63 := by omega
      simp [h1, h2]
    · simp [h1]
  have hi : impl_SetWord.f 20 a0 = some ([], false) := by
    unfold impl_SetWord.f impl_isSet.f
    by_cases h1 : 0 ≤ a0
    · have h2 : ¬ a0 < 64 := by omega
      simp [h1, h2]
    · simp [h1]
  unfold laws_FnExactSetWord.f
  rw [hs, hi]
  simp only [Option.bind_some]
  have e : laws_eqIntS.f 20 [] [] = some true := by decide +kernel
  rw [e]
  simp only [Option.bind_some, if_true, laws_FnExactSetWord.j0]
  have m : laws_markIntS.f 19 [] 1 = some (1, []) := by decide +kernel
  have q : laws_heldIntS.f 19 [] 1 = some 1 := by decide +kernel
  have e' : laws_eqIntS.f 19 [] [] = some true := by decide +kernel
  have hi' : impl_SetWord.f 19 a0 = some ([], false) := by
    unfold impl_SetWord.f impl_isSet.f
    by_cases h1 : 0 ≤ a0
    · have h2 : ¬ a0 < 64 := by omega
      simp [h1, h2]
    · simp [h1]
  have q' : laws_heldIntS.f 18 [] 1 = some 1 := by decide +kernel
  simp [m, q, e', hi', laws_FnExactSetWord.j1, q']

/-- The program's SetWord and the reference's agree at every number. -/
theorem FnExactSetWord : laws_FnExactSetWord.Pure := by
  intro a0 _
  refine ⟨20, ?_⟩
  by_cases h : 0 ≤ a0 ∧ a0 < 64
  · obtain ⟨h1, h2⟩ := h
    have := FnExactSetWord_in ⟨a0.toNat, by omega⟩
    have e0 : ((a0.toNat : Nat) : Int) = a0 := by omega
    simp only [e0] at this
    exact this
  · exact FnExactSetWord_out a0 h

end Go.Proofs.Ytajphpfbihilmaa.Pure
