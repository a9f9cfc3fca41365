/- The plain law of CountCoefficients: the reference's function and the program's answer alike. No condition. -/
import Derived.Test.YtblhjcdfccggfaaPRFnExactCountCoefficients
import Derived.Test.YtblhjcdfccggfaaCV
namespace Go.Proofs.Ytblhjcdfccggfaa.PFnExactCountCoefficients
open Go.RowKit Go.Proofs.YtblhjcdfccggfaaW.PrintWords Go.Proofs.YtblhjcdfccggfaaW.PrintLast
set_option linter.unusedVariables false
set_option linter.unusedSimpArgs false
set_option linter.unusedSectionVars false
open Go.Proofs.Ytblhjcdfccggfaa.KT
theorem w64 (i : Nat) (h : i < 9223372036854775807) : wrap64 ((i : Int) + 1) = ((i + 1 : Nat) : Int) := by
  unfold wrap64; omega
theorem rd_nat (l : List Int) (i : Nat) (h : i < l.length) : rd l (i : Int) = l[i] := by
  simp [rd, h]
/-- marks one after the other -/
def marks : Int → Nat → List Int
  | _, 0 => []
  | m, n + 1 => m :: marks (m + 1) n
theorem marks_len : ∀ (n : Nat) (m : Int), (marks m n).length = n
  | 0, _ => rfl
  | n + 1, m => by simp [marks, marks_len n]
theorem bindS {α β : Type} {o : Option α} {a : α} {f : α → Option β} {r : Option β} (h : o = some a) (h2 : f a = r) : o.bind f = r := by
  rw [h]; exact h2
theorem toIntS_l0 (l : List Int) (hl : l.length < 9223372036854775807) : ∀ (n k i : Nat), i + n = l.length → n < k → laws_toIntS.l0 k l (l.take i ++ List.replicate n 0) (i : Int) = some l
  | 0, k + 1, i, hi, _ => by
    have hi : i = l.length := by omega
    simp [laws_toIntS.l0, hi]
  | n + 1, k + 1, i, hi, hk => by
    have h : i < l.length := by omega
    have e : (l.take i ++ List.replicate (n + 1) (0 : Int)).set i l[i] = l.take (i + 1) ++ List.replicate n 0 := by
      have e2 : ∀ X : List Int, l.take (i + 1) ++ X = l.take i ++ (l[i] :: X) := fun X => by rw [← List.take_append_getElem h, List.append_assoc]; rfl
      rw [List.set_append_right _ _ (by simp; omega), e2, List.replicate_succ]
      simp [Nat.min_eq_left (Nat.le_of_lt h)]
    rw [laws_toIntS.l0, if_pos (by omega), if_pos (by omega), if_pos (by simp; omega), rd_nat _ _ h, w64 _ (by omega), Int.toNat_natCast, e]
    exact toIntS_l0 l hl n k (i + 1) (by omega) (by omega)
theorem toIntS_f (l : List Int) (k : Nat) (hl : l.length ≤ 35184372088832) (hk : l.length < k) : laws_toIntS.f k l = some l := by
  have := toIntS_l0 l (by omega) l.length k 0 (by omega) hk
  rw [laws_toIntS.f, if_pos (by omega), Int.toNat_natCast, if_pos hl]
  simpa using this
theorem eqIntS_l0 (l : List Int) (hl : l.length < 9223372036854775807) : ∀ (n k i : Nat), i + n = l.length → n < k → laws_eqIntS.l0 k l l (i : Int) = some true
  | 0, k + 1, i, hi, _ => by
    have hi : i = l.length := by omega
    simp [laws_eqIntS.l0, hi]
  | n + 1, k + 1, i, hi, hk => by
    rw [laws_eqIntS.l0, if_pos (by omega), if_pos (by omega), if_pos (by omega), if_pos rfl, w64 _ (by omega)]
    exact eqIntS_l0 l hl n k (i + 1) (by omega) (by omega)
theorem eqIntS_f (l : List Int) (k : Nat) (hl : l.length ≤ 35184372088832) (hk : l.length < k) : laws_eqIntS.f k l l = some true := by
  rw [laws_eqIntS.f, if_pos rfl]
  exact eqIntS_l0 l (by omega) l.length k 0 (by omega) hk
theorem eqA4_l0 (m : List Int) (d : Nat) : ∀ (k i : Nat), i + d = 4 → d < k → Q.laws_eqIntA4.l0 k (i : Int) m m = some true := by
  induction d with
  | zero =>
    intro k i hi hk
    obtain ⟨k, rfl⟩ : ∃ q, k = q + 1 := ⟨k - 1, by omega⟩
    rw [Q.laws_eqIntA4.l0, if_neg (by omega)]
  | succ d ih =>
    intro k i hi hk
    obtain ⟨k, rfl⟩ : ∃ q, k = q + 1 := ⟨k - 1, by omega⟩
    rw [Q.laws_eqIntA4.l0, if_pos (by omega), if_pos (by omega), if_pos rfl, w64 i (by omega)]
    exact ih k (i + 1) (by omega) (by omega)
theorem eqA4_f (m : List Int) (k : Nat) (hk : 4 < k) : Q.laws_eqIntA4.f k m m = some true := eqA4_l0 m 4 k 0 (by omega) hk
end Go.Proofs.Ytblhjcdfccggfaa.PFnExactCountCoefficients
namespace Go.Proofs.Ytblhjcdfccggfaa.Pure
open Go.RowKit Go.Proofs.Ytblhjcdfccggfaa.PFnExactCountCoefficients Go.Proofs.YtblhjcdfccggfaaW.PrintWords Go.Proofs.YtblhjcdfccggfaaW.PrintLast
set_option linter.unusedVariables false
set_option linter.unusedSimpArgs false
open Go.Proofs.Ytblhjcdfccggfaa.KT
theorem FnExactCountCoefficients_law (l r : List Int) (b : Bool) (hl : l.length ≤ 1048576) (k : Nat) (hk : 2 * l.length + 700 < k)
    (hs : Q.spec_CountCoefficients.f k l = some (r, b)) (hi : Q.impl_CountCoefficients.f k l = some (r, b)) : Q.laws_FnExactCountCoefficients.f k l = some true := by
  have ht := toIntS_f l k (by omega) (by omega)
  have he := eqIntS_f l k (by omega) (by omega)
  have h7 := eqA4_f r k (by omega)
  unfold Q.laws_FnExactCountCoefficients.f
  rw [if_neg (by omega)]
  refine bindS ht ?_
  refine bindS hs ?_
  refine bindS ht ?_
  refine bindS hi ?_
  refine bindS h7 ?_
  dsimp only
  rw [if_pos rfl, bne_self_eq_false, if_neg Bool.false_ne_true]
  refine bindS ht ?_
  refine bindS he ?_
  rw [if_pos rfl]
/-- The program's CountCoefficients and the reference's agree at every word. -/
theorem FnExactCountCoefficients : laws_FnExactCountCoefficients.Pure := by
  intro l _ _ _
  by_cases h : l.length ≤ 1048576
  · obtain ⟨⟨r, b⟩, hr⟩ : ∃ r, r = (if Q.okW l = true then (Q.counts (Q.cG l) 4 0 (List.replicate 4 0), true) else (List.replicate 4 0, false)) := ⟨_, rfl⟩
    have h2 := Q.count_is l (by omega) (2 * l.length + 4000) (by omega) _ hr
    exact ⟨_, FnExactCountCoefficients_law l r b h _ (by omega) h2.1 h2.2⟩
  · exact ⟨0, by unfold Q.laws_FnExactCountCoefficients.f; rw [if_pos (by omega)]⟩
end Go.Proofs.Ytblhjcdfccggfaa.Pure
