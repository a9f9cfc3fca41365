-- Written by a program of this session's own (wip/rowas.py).
import Derived.Test.YtncdgimmalifjaaQO
namespace Go.Proofs.Ytncdgimmalifjaa.PFnExactOrFamily
open Go.RowKit Go.Proofs.YtncdgimmalifjaaW.PrintWords Go.Proofs.YtncdgimmalifjaaW.PrintLast Go.Proofs.Ytncdgimmalifjaa.Q
set_option linter.unusedVariables false
def laws_FnExactOrFamily.Pure : Prop := ∀ (l0_0 : List Int) (l1_0 : List Int), l0_0.length ≤ maxLen → l0_0.length * 8 ≤ 140737488351232 → (∀ x ∈ l0_0, (Lit.int .i64 x).wf = true) → l1_0.length ≤ maxLen → l1_0.length * 8 ≤ 140737488351232 → (∀ x ∈ l1_0, (Lit.int .i64 x).wf = true) → ∃ k, laws_FnExactOrFamily.f k l0_0 l1_0 = some true
theorem laws_FnExactOrFamily.walk (P : laws_FnExactOrFamily.Pure) (a0_0 : Option Addr) (len0_0 cap0_0 : Nat) (z0_0 : List Int) (a1_0 : Option Addr) (len1_0 cap1_0 : Nat) (z1_0 : List Int) (w : World) (w0_0 : (a0_0 = none ∧ len0_0 = 0 ∧ cap0_0 = 0 ∧ z0_0 = []) ∨ ∃ x, a0_0 = some x ∧ len0_0 ≤ cap0_0 ∧ cap0_0 ≤ maxLen ∧ z0_0.length = cap0_0 ∧ (∀ i, i < z0_0.length → w.cell? (x.add i) = some (.int .i64 (z0_0.getD i 0))) ∧ ∀ n ∈ z0_0, (Lit.int .i64 n).wf = true) (y0_0 : len0_0 * 8 ≤ 140737488351232) (w1_0 : (a1_0 = none ∧ len1_0 = 0 ∧ cap1_0 = 0 ∧ z1_0 = []) ∨ ∃ x, a1_0 = some x ∧ len1_0 ≤ cap1_0 ∧ cap1_0 ≤ maxLen ∧ z1_0.length = cap1_0 ∧ (∀ i, i < z1_0.length → w.cell? (x.add i) = some (.int .i64 (z1_0.getD i 0))) ∧ ∀ n ∈ z1_0, (Lit.int .i64 n).wf = true) (y1_0 : len1_0 * 8 ≤ 140737488351232) :
    Calls Try.prog 8 #[.agg #[.slice a0_0 len0_0 cap0_0], .agg #[.slice a1_0 len1_0 cap1_0]] w fun e w' => e = .returned (.bool true) ∧ Below w.heap.size w w' := by
  obtain ⟨l0_0, rfl, hr0_0, hm0_0, hw0_0, hc0_0⟩ := ReadsInt.ofRowC w0_0
  obtain ⟨l1_0, rfl, hr1_0, hm1_0, hw1_0, hc1_0⟩ := ReadsInt.ofRowC w1_0
  obtain ⟨k, h⟩ := P l0_0 l1_0 hm0_0 y0_0 hw0_0 hm1_0 y1_0 hw1_0
  refine (laws_FnExactOrFamily.calls k _ _ l0_0 _ _ l1_0 true w (Kd.C_of_reads (d := (0 : Int)) (h1 := fun _ => rfl) hr0_0) hc0_0 (Kd.C_of_reads (d := (0 : Int)) (h1 := fun _ => rfl) hr1_0) hc1_0 h).mono ?_
  rintro e w' ⟨rfl, hd⟩
  exact ⟨rfl, hd⟩

end Go.Proofs.Ytncdgimmalifjaa.PFnExactOrFamily
