/- IsWordFor of the program returns what the reference's returns, for all arguments: both tell whether the word falls just for the family's members. No condition. -/
import Derived.Test.YtlbhfbanbdahdaaPFnExactIsWordForx2
import Derived.Test.YtlbhfbanbdahdaaV0
namespace Go.Proofs.Ytlbhfbanbdahdaa.PFnExactIsWordFor
open Go.RowKit Go.Proofs.YtlbhfbanbdahdaaW.PrintWords Go.Proofs.YtlbhfbanbdahdaaW.PrintLast
set_option linter.unusedVariables false
set_option linter.unusedSimpArgs false
set_option linter.unusedSectionVars false
theorem w64 (i : Nat) (h : i < 9223372036854775807) : wrap64 ((i : Int) + 1) = ((i + 1 : Nat) : Int) := by
  unfold wrap64; omega
theorem rd_nat (l : List Int) (i : Nat) (h : i < l.length) : rd l (i : Int) = l[i] := by
  simp [rd, h]
/-- marks one after the other -/
def marks : Int → Nat → List Int
  | _, 0 => []
  | m, n + 1 => m :: marks (m + 1) n
theorem marks_len : ∀ (n : Nat) (m : Int), (marks m n).length = n
  | 0, _ => rfl
  | n + 1, m => by simp [marks, marks_len n]
theorem bindS {α β : Type} {o : Option α} {a : α} {f : α → Option β} {r : Option β} (h : o = some a) (h2 : f a = r) : o.bind f = r := by
  rw [h]; exact h2
theorem toIntS_l0 (l : List Int) (hl : l.length < 9223372036854775807) : ∀ (n k i : Nat), i + n = l.length → n < k → laws_toIntS.l0 k l (l.take i ++ List.replicate n 0) (i : Int) = some l
  | 0, k + 1, i, hi, _ => by
    have hi : i = l.length := by omega
    simp [laws_toIntS.l0, hi]
  | n + 1, k + 1, i, hi, hk => by
    have h : i < l.length := by omega
    have e : (l.take i ++ List.replicate (n + 1) (0 : Int)).set i l[i] = l.take (i + 1) ++ List.replicate n 0 := by
      have e2 : ∀ X : List Int, l.take (i + 1) ++ X = l.take i ++ (l[i] :: X) := fun X => by rw [← List.take_append_getElem h, List.append_assoc]; rfl
      rw [List.set_append_right _ _ (by simp; omega), e2, List.replicate_succ]
      simp [Nat.min_eq_left (Nat.le_of_lt h)]
    rw [laws_toIntS.l0, if_pos (by omega), if_pos (by omega), if_pos (by simp; omega), rd_nat _ _ h, w64 _ (by omega), Int.toNat_natCast, e]
    exact toIntS_l0 l hl n k (i + 1) (by omega) (by omega)
theorem toIntS_f (l : List Int) (k : Nat) (hl : l.length ≤ 35184372088832) (hk : l.length < k) : laws_toIntS.f k l = some l := by
  have := toIntS_l0 l (by omega) l.length k 0 (by omega) hk
  rw [laws_toIntS.f, if_pos (by omega), Int.toNat_natCast, if_pos hl]
  simpa using this
theorem eqIntS_l0 (l : List Int) (hl : l.length < 9223372036854775807) : ∀ (n k i : Nat), i + n = l.length → n < k → laws_eqIntS.l0 k l l (i : Int) = some true
  | 0, k + 1, i, hi, _ => by
    have hi : i = l.length := by omega
    simp [laws_eqIntS.l0, hi]
  | n + 1, k + 1, i, hi, hk => by
    rw [laws_eqIntS.l0, if_pos (by omega), if_pos (by omega), if_pos (by omega), if_pos rfl, w64 _ (by omega)]
    exact eqIntS_l0 l hl n k (i + 1) (by omega) (by omega)
theorem eqIntS_f (l : List Int) (k : Nat) (hl : l.length ≤ 35184372088832) (hk : l.length < k) : laws_eqIntS.f k l l = some true := by
  rw [laws_eqIntS.f, if_pos rfl]
  exact eqIntS_l0 l (by omega) l.length k 0 (by omega) hk
theorem eqFamily_f (l : List Int) (k : Nat) (hl : l.length ≤ 35184372088832) (hk : l.length < k) : laws_eqFamily.f k l l = some true := by
  rw [laws_eqFamily.f, eqIntS_f l k hl hk]; rfl
theorem szFamily_le (l : List Int) (h : l.length ≤ 1048576) : laws_szFamily.f l 1048576 = some (1048576 - (l.length : Int)) := by
  have e : wrap64 (1048576 - (l.length : Int)) = 1048576 - (l.length : Int) := by unfold wrap64; omega
  rw [laws_szFamily.f, laws_szIntS.f, e, if_neg (by omega), Option.bind_some, if_neg (by omega)]
theorem szFamily_gt (l : List Int) (h : 1048576 < l.length) (h2 : l.length ≤ 35184372088832) : laws_szFamily.f l 1048576 = some (-1) := by
  have e : wrap64 (1048576 - (l.length : Int)) = 1048576 - (l.length : Int) := by unfold wrap64; omega
  rw [laws_szFamily.f, laws_szIntS.f, e, if_pos (by omega), Option.bind_some, if_pos (by omega)]
theorem toFamily_f (l : List Int) (k : Nat) (hl : l.length ≤ 35184372088832) (hk : l.length < k) : laws_toFamily.f k l = some l := by
  rw [laws_toFamily.f, toIntS_f l k hl hk]; rfl
end Go.Proofs.Ytlbhfbanbdahdaa.PFnExactIsWordFor
namespace Go.Proofs.Ytlbhfbanbdahdaa.Pure
open Go.RowKit Go.Proofs.Ytlbhfbanbdahdaa.PFnExactIsWordFor Go.Proofs.YtlbhfbanbdahdaaW.PrintWords Go.Proofs.YtlbhfbanbdahdaaW.PrintLast
set_option linter.unusedVariables false
set_option linter.unusedSimpArgs false
theorem FnExactIsWordFor_law (l f : List Int) (a b : Bool) (hl : l.length ≤ 1048576) (hf : f.length ≤ 1048576)
    (hs : spec_IsWordFor.f l f = some (a, b)) (hi : impl_IsWordFor.f l f = some (a, b)) : laws_FnExactIsWordFor.f (l.length + f.length + 200) l f = some true := by
  generalize hk : l.length + f.length + 190 = k
  have e : l.length + f.length + 200 = k + 10 := by omega
  rw [e]
  have hz := szFamily_le f hf
  unfold laws_FnExactIsWordFor.f
  repeat (first
    | exact rfl
    | refine bindS hz ?_
    | refine bindS hs ?_
    | refine bindS hi ?_
    | refine bindS (toIntS_f _ _ (by omega) (by omega)) ?_
    | refine bindS (eqIntS_f _ _ (by omega) (by omega)) ?_
    | refine bindS (toFamily_f _ _ (by omega) (by omega)) ?_
    | refine bindS (eqFamily_f _ _ (by omega) (by omega)) ?_
    | refine (if_pos rfl).trans ?_
    | refine (if_neg Bool.false_ne_true).trans ?_
    | refine (if_neg (by omega)).trans ?_
    | refine (if_pos (by omega)).trans ?_
    | rw [laws_FnExactIsWordFor.j0]
    | rw [bne_self_eq_false]
    | dsimp only)

open Classical in
/-- The program's IsWordFor and the reference's agree at every word and family. -/
theorem FnExactIsWordFor : laws_FnExactIsWordFor.Pure := by
  intro l f _ _ _ _ _ _
  by_cases h : l.length ≤ 1048576
  · by_cases h2 : f.length ≤ 1048576
    · have e1 : spec_IsWordFor.f l f = _ := Q.spec_IsWordFor_is l f (by omega) (by omega) (2*l.length+f.length*(f.length+2)+f.length+1000) (by omega)
      have e2 : impl_IsWordFor.f l f = _ := Q.impl_IsWordFor_is l f (by omega) (by omega) (2*l.length+f.length*(f.length+2)+f.length+1000) (by omega)
      by_cases hv : Q.okW l = true ∧ Q.Valid f
      · rw [if_pos hv] at e1 e2
        exact ⟨_, FnExactIsWordFor_law l f _ true h h2 e1 e2⟩
      · rw [if_neg hv] at e1 e2
        exact ⟨_, FnExactIsWordFor_law l f false false h h2 e1 e2⟩
    · exact ⟨0, by unfold laws_FnExactIsWordFor.f; rw [if_neg (by omega), szFamily_gt f (by omega) (by omega), Option.bind_some, if_pos (by omega)]⟩
  · exact ⟨0, by unfold laws_FnExactIsWordFor.f; rw [if_pos (by omega)]⟩
end Go.Proofs.Ytlbhfbanbdahdaa.Pure
