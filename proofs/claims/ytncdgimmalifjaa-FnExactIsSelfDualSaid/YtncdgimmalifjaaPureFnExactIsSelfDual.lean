/- IsSelfDual of the program returns what the reference's returns, for all arguments: both tell whether the list is that of all least sets of the dual's members. No condition. -/
import Derived.Test.YtncdgimmalifjaaPFnExactIsSelfDualx2
import Derived.Test.YtncdgimmalifjaaFC
namespace Go.Proofs.Ytncdgimmalifjaa.PFnExactIsSelfDual
open Go.RowKit Go.Proofs.YtncdgimmalifjaaW.PrintWords Go.Proofs.YtncdgimmalifjaaW.PrintLast
set_option linter.unusedVariables false
set_option linter.unusedSimpArgs false
theorem w64 (i : Nat) (h : i < 9223372036854775807) : wrap64 ((i : Int) + 1) = ((i + 1 : Nat) : Int) := by
  unfold wrap64; omega
theorem rd_nat (l : List Int) (i : Nat) (h : i < l.length) : rd l (i : Int) = l[i] := by
  simp [rd, h]
/-- marks one after the other -/
def marks : Int → Nat → List Int
  | _, 0 => []
  | m, n + 1 => m :: marks (m + 1) n
theorem marks_len : ∀ (n : Nat) (m : Int), (marks m n).length = n
  | 0, _ => rfl
  | n + 1, m => by simp [marks, marks_len n]
theorem bindS {α β : Type} {o : Option α} {a : α} {f : α → Option β} {r : Option β} (h : o = some a) (h2 : f a = r) : o.bind f = r := by
  rw [h]; exact h2
theorem toIntS_l0 (l : List Int) (hl : l.length < 9223372036854775807) : ∀ (n k i : Nat), i + n = l.length → n < k → laws_toIntS.l0 k l (l.take i ++ List.replicate n 0) (i : Int) = some l
  | 0, k + 1, i, hi, _ => by
    have hi : i = l.length := by omega
    simp [laws_toIntS.l0, hi]
  | n + 1, k + 1, i, hi, hk => by
    have h : i < l.length := by omega
    have e : (l.take i ++ List.replicate (n + 1) (0 : Int)).set i l[i] = l.take (i + 1) ++ List.replicate n 0 := by
      have e2 : ∀ X : List Int, l.take (i + 1) ++ X = l.take i ++ (l[i] :: X) := fun X => by rw [← List.take_append_getElem h, List.append_assoc]; rfl
      rw [List.set_append_right _ _ (by simp; omega), e2, List.replicate_succ]
      simp [Nat.min_eq_left (Nat.le_of_lt h)]
    rw [laws_toIntS.l0, if_pos (by omega), if_pos (by omega), if_pos (by simp; omega), rd_nat _ _ h, w64 _ (by omega), Int.toNat_natCast, e]
    exact toIntS_l0 l hl n k (i + 1) (by omega) (by omega)
theorem toIntS_f (l : List Int) (k : Nat) (hl : l.length ≤ 35184372088832) (hk : l.length < k) : laws_toIntS.f k l = some l := by
  have := toIntS_l0 l (by omega) l.length k 0 (by omega) hk
  rw [laws_toIntS.f, if_pos (by omega), Int.toNat_natCast, if_pos hl]
  simpa using this
theorem eqIntS_l0 (l : List Int) (hl : l.length < 9223372036854775807) : ∀ (n k i : Nat), i + n = l.length → n < k → laws_eqIntS.l0 k l l (i : Int) = some true
  | 0, k + 1, i, hi, _ => by
    have hi : i = l.length := by omega
    simp [laws_eqIntS.l0, hi]
  | n + 1, k + 1, i, hi, hk => by
    rw [laws_eqIntS.l0, if_pos (by omega), if_pos (by omega), if_pos (by omega), if_pos rfl, w64 _ (by omega)]
    exact eqIntS_l0 l hl n k (i + 1) (by omega) (by omega)
theorem eqIntS_f (l : List Int) (k : Nat) (hl : l.length ≤ 35184372088832) (hk : l.length < k) : laws_eqIntS.f k l l = some true := by
  rw [laws_eqIntS.f, if_pos rfl]
  exact eqIntS_l0 l (by omega) l.length k 0 (by omega) hk
theorem eqFamily_f (l : List Int) (k : Nat) (hl : l.length ≤ 35184372088832) (hk : l.length < k) : laws_eqFamily.f k l l = some true := by
  rw [laws_eqFamily.f, eqIntS_f l k hl hk]; rfl
theorem szFamily_le (l : List Int) (h : l.length ≤ 1048576) : laws_szFamily.f l 1048576 = some (1048576 - (l.length : Int)) := by
  have e : wrap64 (1048576 - (l.length : Int)) = 1048576 - (l.length : Int) := by unfold wrap64; omega
  rw [laws_szFamily.f, laws_szIntS.f, e, if_neg (by omega), Option.bind_some, if_neg (by omega)]
theorem szFamily_gt (l : List Int) (h : 1048576 < l.length) (h2 : l.length ≤ 35184372088832) : laws_szFamily.f l 1048576 = some (-1) := by
  have e : wrap64 (1048576 - (l.length : Int)) = 1048576 - (l.length : Int) := by unfold wrap64; omega
  rw [laws_szFamily.f, laws_szIntS.f, e, if_pos (by omega), Option.bind_some, if_pos (by omega)]
theorem toFamily_f (l : List Int) (k : Nat) (hl : l.length ≤ 35184372088832) (hk : l.length < k) : laws_toFamily.f k l = some l := by
  rw [laws_toFamily.f, toIntS_f l k hl hk]; rfl
theorem l1Same_l0 (l m : List Int) (hlm : l.length = m.length) (hl : l.length < 9223372036854775807) : ∀ (n k i : Nat), i + n = l.length → n < k → spec_l1Same.l0 k l m (i : Int) = some (decide (l.drop i = m.drop i))
  | 0, k + 1, i, hi, _ => by
    have h1 : l.drop i = [] := List.drop_eq_nil_of_le (by omega)
    have h2 : m.drop i = [] := List.drop_eq_nil_of_le (by omega)
    rw [spec_l1Same.l0, if_neg (by omega), h1, h2]; rfl
  | n + 1, k + 1, i, hi, hk => by
    have h : i < l.length := by omega
    have h' : i < m.length := by omega
    have hd : l.drop i = l[i] :: l.drop (i + 1) := List.drop_eq_getElem_cons h
    have hd' : m.drop i = m[i] :: m.drop (i + 1) := List.drop_eq_getElem_cons h'
    rw [spec_l1Same.l0, if_pos (by omega), if_pos (by omega), if_pos (by omega), rd_nat _ _ h, rd_nat _ _ h', w64 _ (by omega), l1Same_l0 l m hlm hl n k (i + 1) (by omega) (by omega), hd, hd']
    by_cases he : l[i] = m[i]
    · rw [if_pos he]; congr 1; rw [decide_eq_decide]; exact ⟨fun h => by rw [he, h], fun h => (List.cons.inj h).2⟩
    · rw [if_neg he]; congr 1; exact (decide_eq_false fun h => he (List.cons.inj h).1).symm
theorem l1Same_f (l m : List Int) (hl : l.length < 9223372036854775807) (k : Nat) (hk : l.length < k) : spec_l1Same.f k l m = some (decide (l = m)) := by
  rw [spec_l1Same.f]
  by_cases h : l.length = m.length
  · have := l1Same_l0 l m h hl l.length k 0 (by omega) hk
    rw [if_pos (by omega)]
    simpa using this
  · rw [if_neg (by omega)]
    have : l ≠ m := fun e => h (by rw [e])
    simp [this]
end Go.Proofs.Ytncdgimmalifjaa.PFnExactIsSelfDual
namespace Go.Proofs.Ytncdgimmalifjaa.Pure
open Go.RowKit Go.Proofs.Ytncdgimmalifjaa.PFnExactIsSelfDual Go.Proofs.YtncdgimmalifjaaW.PrintWords Go.Proofs.YtncdgimmalifjaaW.PrintLast
set_option linter.unusedVariables false
set_option linter.unusedSimpArgs false
open Classical in
theorem spec_IsSelfDual_is (l : List Int) (n : Int) (hl : l.length < 9223372036854775807) (k : Nat) (hk : l.length + 100 < k) :
    spec_IsSelfDual.f k l n = if (0 ≤ n ∧ n ≤ 6) ∧ Q.within l n = true ∧ Q.Valid l then some (decide (l = Q.upto (Q.leastB fun x => !Q.hasB l (Q.anot (Q.allOf n) x)) 64), true) else some (false, false) := by
  obtain ⟨k, rfl⟩ : ∃ j, k = j + 1 := ⟨k - 1, by omega⟩
  have e0 : spec_l1In.f n 0 6 = some (decide (0 ≤ n ∧ n ≤ 6)) := by
    unfold spec_l1In.f
    by_cases h : n ≥ 0
    · rw [if_pos h]; congr 1; rw [Bool.eq_iff_iff]; simp; omega
    · rw [if_neg h]; congr 1; rw [Bool.eq_iff_iff]; simp; omega
  rw [spec_IsSelfDual.f, e0, Option.bind_some]
  by_cases hn : 0 ≤ n ∧ n ≤ 6
  · have e1 : spec_l5Within.f l n = some (Q.within l n && decide (Q.Valid l)) := Q.within_f l n hn.1 hl _ (by omega)
    rw [if_pos (decide_eq_true hn), e1, Option.bind_some, spec_IsSelfDual.j0]
    by_cases hw : Q.within l n = true
    · by_cases hv : Q.Valid l
      · have e2 : spec_l5Dual.f l n = some (Q.upto (Q.leastB fun x => !Q.hasB l (Q.anot (Q.allOf n) x)) 64) := Q.l5Dual_is l n hn (Q.valid_in hv) hl _ (by omega)
        have hu := Q.upto_len (Q.leastB fun x => !Q.hasB l (Q.anot (Q.allOf n) x)) 64
        rw [if_neg (by simp [hw, hv]), if_pos ⟨hn, hw, hv⟩, e2, Option.bind_some, l1Same_f _ _ (by omega) k (by omega), Option.bind_some]
        congr 2
        rw [Bool.eq_iff_iff]; simp only [decide_eq_true_iff]; exact eq_comm
      · rw [if_pos (by simp [hv]), if_neg (fun h => hv h.2.2)]
    · rw [if_pos (by simp [hw]), if_neg (fun h => hw h.2.1)]
  · rw [if_neg (by simpa using hn), if_neg (fun h => hn h.1), spec_IsSelfDual.j0, if_pos rfl]

theorem FnExactIsSelfDual_law (l : List Int) (s : Int) (a b : Bool) (hl : l.length ≤ 1048576)
    (hs : ∀ k, l.length + 100 < k → spec_IsSelfDual.f k l s = some (a, b)) (hi : impl_IsSelfDual.f l s = some (a, b)) : laws_FnExactIsSelfDual.f (l.length + 200) l s = some true := by
  generalize hk : l.length + 190 = k
  have e : l.length + 200 = k + 10 := by omega
  rw [e]
  have hz := szFamily_le l hl
  have hs := hs (k + 10) (by omega)
  unfold laws_FnExactIsSelfDual.f
  repeat (first
    | exact rfl
    | refine bindS hz ?_
    | refine bindS hs ?_
    | refine bindS hi ?_
    | refine bindS (toIntS_f _ _ (by omega) (by omega)) ?_
    | refine bindS (eqIntS_f _ _ (by omega) (by omega)) ?_
    | refine bindS (toFamily_f _ _ (by omega) (by omega)) ?_
    | refine bindS (eqFamily_f _ _ (by omega) (by omega)) ?_
    | refine (if_pos rfl).trans ?_
    | refine (if_neg Bool.false_ne_true).trans ?_
    | refine (if_neg (by omega)).trans ?_
    | refine (if_pos (by omega)).trans ?_
    | rw [laws_FnExactIsSelfDual.j0]
    | rw [laws_FnExactIsSelfDual.j1]
    | rw [laws_FnExactIsSelfDual.j2]
    | rw [bne_self_eq_false]
    | dsimp only)

open Classical in
/-- The program's IsSelfDual and the reference's agree at every list and number. -/
theorem FnExactIsSelfDual : laws_FnExactIsSelfDual.Pure := by
  intro l s _ hb _ _
  by_cases h : l.length ≤ 1048576
  · have e1 := fun k hk => spec_IsSelfDual_is l s (by omega) k hk
    have e2 : impl_IsSelfDual.f l s = _ := Q.impl_IsSelfDual_is l s (by omega) (l.length * (l.length + 2) + l.length + 5000) (by omega)
    by_cases hv : (0 ≤ s ∧ s ≤ 6) ∧ Q.within l s = true ∧ Q.Valid l
    · rw [if_pos hv] at e2
      exact ⟨_, FnExactIsSelfDual_law l s _ true h (fun k hk => (e1 k hk).trans (if_pos hv)) e2⟩
    · rw [if_neg hv] at e2
      exact ⟨_, FnExactIsSelfDual_law l s false false h (fun k hk => (e1 k hk).trans (if_neg hv)) e2⟩
  · exact ⟨0, by unfold laws_FnExactIsSelfDual.f; rw [szFamily_gt l (by omega) (by omega), Option.bind_some, if_pos (by omega)]⟩
end Go.Proofs.Ytncdgimmalifjaa.Pure
