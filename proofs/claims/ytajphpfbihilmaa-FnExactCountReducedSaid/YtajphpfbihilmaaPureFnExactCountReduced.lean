/- CountReduced of the program returns what the reference's returns, for all arguments: within the bounds by running both over all 390 pairs in the kernel, outside them by the tests at the head of both. No condition. -/
import Derived.Test.YtajphpfbihilmaaPFnExactCountReducedx1
namespace Go.Proofs.Ytajphpfbihilmaa.Pure
open Go.RowKit Go.Proofs.Ytajphpfbihilmaa.PFnExactCountReduced Go.Proofs.YtajphpfbihilmaaW.PrintWords Go.Proofs.YtajphpfbihilmaaW.PrintLast

theorem FnExactCountReduced_in : ∀ n : Fin 6, ∀ l : Fin 65, laws_FnExactCountReduced.f 70 ((n.val : Int) + 1) (l.val : Int) = some true := by
  decide +kernel

theorem FnExactCountReduced_out (a0 a1 : Int) (h : ¬ (1 ≤ a0 ∧ a0 ≤ 6 ∧ 0 ≤ a1 ∧ a1 ≤ 64)) : laws_FnExactCountReduced.f 70 a0 a1 = some true := by
  have hs : spec_CountReduced.f 70 a0 a1 = some (0, false) := by
    unfold spec_CountReduced.f spec_l7Nails.f spec_l1In.f
    by_cases h1 : 1 ≤ a0
    · by_cases h2 : a0 ≤ 6
      · by_cases h3 : 0 ≤ a1
        · have h4 : ¬ a1 ≤ 64 := fun h4 => h ⟨h1, h2, h3, h4⟩
          simp [h1, h2, h3, h4]
        · simp [h1, h2, h3]
      · simp [h1, h2]
    · simp [h1]
  have hi : impl_CountReduced.f 70 a0 a1 = some (0, false) := by
    unfold impl_CountReduced.f impl_isLength.f impl_isNail.f
    by_cases h1 : 1 ≤ a0
    · by_cases h2 : a0 ≤ 6
      · by_cases h3 : 0 ≤ a1
        · have h4 : ¬ a1 ≤ 64 := fun h4 => h ⟨h1, h2, h3, h4⟩
          simp [h1, h2, h3, h4]
        · simp [h1, h2, h3]
      · simp [h1, h2]
    · simp [h1]
  unfold laws_FnExactCountReduced.f
  rw [hs, hi]; rfl

/-- The program's CountReduced and the reference's agree at every pair of numbers. -/
theorem FnExactCountReduced : laws_FnExactCountReduced.Pure := by
  intro a0 a1 _ _
  refine ⟨70, ?_⟩
  by_cases h : 1 ≤ a0 ∧ a0 ≤ 6 ∧ 0 ≤ a1 ∧ a1 ≤ 64
  · obtain ⟨h1, h2, h3, h4⟩ := h
    have := FnExactCountReduced_in ⟨(a0 - 1).toNat, by omega⟩ ⟨a1.toNat, by omega⟩
    have e0 : (((a0 - 1).toNat : Nat) : Int) + 1 = a0 := by omega
    have e1 : ((a1.toNat : Nat) : Int) = a1 := by omega
    simp only [e0, e1] at this
    exact this
  · exact FnExactCountReduced_out a0 a1 h

end Go.Proofs.Ytajphpfbihilmaa.Pure
