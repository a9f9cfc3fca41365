/- The plain law of SameToOrder: the reference's function and the program's answer alike. No condition. -/
import Derived.Test.YtblhjcdfccggfaaPFnExactSameToOrderx1
import Derived.Test.YtblhjcdfccggfaaCS
namespace Go.Proofs.Ytblhjcdfccggfaa.PFnExactSameToOrder
open Go.RowKit Go.Proofs.YtblhjcdfccggfaaW.PrintWords Go.Proofs.YtblhjcdfccggfaaW.PrintLast
set_option linter.unusedVariables false
set_option linter.unusedSimpArgs false
set_option linter.unusedSectionVars false
theorem w64 (i : Nat) (h : i < 9223372036854775807) : wrap64 ((i : Int) + 1) = ((i + 1 : Nat) : Int) := by
  unfold wrap64; omega
theorem rd_nat (l : List Int) (i : Nat) (h : i < l.length) : rd l (i : Int) = l[i] := by
  simp [rd, h]
/-- marks one after the other -/
def marks : Int → Nat → List Int
  | _, 0 => []
  | m, n + 1 => m :: marks (m + 1) n
theorem marks_len : ∀ (n : Nat) (m : Int), (marks m n).length = n
  | 0, _ => rfl
  | n + 1, m => by simp [marks, marks_len n]
theorem bindS {α β : Type} {o : Option α} {a : α} {f : α → Option β} {r : Option β} (h : o = some a) (h2 : f a = r) : o.bind f = r := by
  rw [h]; exact h2
theorem toIntS_l0 (l : List Int) (hl : l.length < 9223372036854775807) : ∀ (n k i : Nat), i + n = l.length → n < k → laws_toIntS.l0 k l (l.take i ++ List.replicate n 0) (i : Int) = some l
  | 0, k + 1, i, hi, _ => by
    have hi : i = l.length := by omega
    simp [laws_toIntS.l0, hi]
  | n + 1, k + 1, i, hi, hk => by
    have h : i < l.length := by omega
    have e : (l.take i ++ List.replicate (n + 1) (0 : Int)).set i l[i] = l.take (i + 1) ++ List.replicate n 0 := by
      have e2 : ∀ X : List Int, l.take (i + 1) ++ X = l.take i ++ (l[i] :: X) := fun X => by rw [← List.take_append_getElem h, List.append_assoc]; rfl
      rw [List.set_append_right _ _ (by simp; omega), e2, List.replicate_succ]
      simp [Nat.min_eq_left (Nat.le_of_lt h)]
    rw [laws_toIntS.l0, if_pos (by omega), if_pos (by omega), if_pos (by simp; omega), rd_nat _ _ h, w64 _ (by omega), Int.toNat_natCast, e]
    exact toIntS_l0 l hl n k (i + 1) (by omega) (by omega)
theorem toIntS_f (l : List Int) (k : Nat) (hl : l.length ≤ 35184372088832) (hk : l.length < k) : laws_toIntS.f k l = some l := by
  have := toIntS_l0 l (by omega) l.length k 0 (by omega) hk
  rw [laws_toIntS.f, if_pos (by omega), Int.toNat_natCast, if_pos hl]
  simpa using this
theorem eqIntS_l0 (l : List Int) (hl : l.length < 9223372036854775807) : ∀ (n k i : Nat), i + n = l.length → n < k → laws_eqIntS.l0 k l l (i : Int) = some true
  | 0, k + 1, i, hi, _ => by
    have hi : i = l.length := by omega
    simp [laws_eqIntS.l0, hi]
  | n + 1, k + 1, i, hi, hk => by
    rw [laws_eqIntS.l0, if_pos (by omega), if_pos (by omega), if_pos (by omega), if_pos rfl, w64 _ (by omega)]
    exact eqIntS_l0 l hl n k (i + 1) (by omega) (by omega)
theorem eqIntS_f (l : List Int) (k : Nat) (hl : l.length ≤ 35184372088832) (hk : l.length < k) : laws_eqIntS.f k l l = some true := by
  rw [laws_eqIntS.f, if_pos rfl]
  exact eqIntS_l0 l (by omega) l.length k 0 (by omega) hk
end Go.Proofs.Ytblhjcdfccggfaa.PFnExactSameToOrder
namespace Go.Proofs.Ytblhjcdfccggfaa.Pure
open Go.RowKit Go.Proofs.Ytblhjcdfccggfaa.PFnExactSameToOrder Go.Proofs.YtblhjcdfccggfaaW.PrintWords Go.Proofs.YtblhjcdfccggfaaW.PrintLast
set_option linter.unusedVariables false
set_option linter.unusedSimpArgs false
theorem FnExactSameToOrder_law (l m : List Int) (a2 : Int) (x b : Bool) (hl : l.length ≤ 1048576) (hm : m.length ≤ 1048576)
    (hs : spec_SameToOrder.f l m a2 = some (x, b)) (hi : impl_SameToOrder.f l m a2 = some (x, b)) : laws_FnExactSameToOrder.f (l.length + m.length + 200) l m a2 = some true := by
  generalize hk : l.length + m.length + 190 = k
  have e : l.length + m.length + 200 = k + 10 := by omega
  rw [e]
  unfold laws_FnExactSameToOrder.f
  repeat (first
    | exact rfl
    | refine bindS hs ?_
    | refine bindS hi ?_
    | refine bindS (toIntS_f _ _ (by omega) (by omega)) ?_
    | refine bindS (eqIntS_f _ _ (by omega) (by omega)) ?_
    | refine (if_pos rfl).trans ?_
    | refine (if_neg Bool.false_ne_true).trans ?_
    | refine (if_neg (by omega)).trans ?_
    | refine (if_pos (by omega)).trans ?_
    | rw [laws_FnExactSameToOrder.j0]
    | rw [bne_self_eq_false]
    | dsimp only)
/-- The program's SameToOrder and the reference's agree at every two words and every order. -/
theorem FnExactSameToOrder : laws_FnExactSameToOrder.Pure := by
  intro l m a2 _ _ _ _ _ _ _
  by_cases h : l.length ≤ 1048576
  · by_cases hm : m.length ≤ 1048576
    · obtain ⟨⟨r, b⟩, hr⟩ : ∃ r, r = (if (Q.okW l && Q.okW m) = true ∧ 0 ≤ a2 ∧ a2 ≤ 3 then (((List.range (a2.toNat + 1)).all fun d => Q.sameD (Q.cG l) (Q.cG m) d), true) else (false, false)) := ⟨_, rfl⟩
      have h2 := Q.same_is l m a2 (by omega) (by omega) (2 * l.length + 2 * m.length + 4000) (by omega) _ hr
      exact ⟨_, FnExactSameToOrder_law l m a2 r b h hm h2.1 h2.2⟩
    · exact ⟨0, by unfold laws_FnExactSameToOrder.f; rw [if_neg (by omega), if_pos (by omega)]⟩
  · exact ⟨0, by unfold laws_FnExactSameToOrder.f; rw [if_pos (by omega)]⟩
end Go.Proofs.Ytblhjcdfccggfaa.Pure
