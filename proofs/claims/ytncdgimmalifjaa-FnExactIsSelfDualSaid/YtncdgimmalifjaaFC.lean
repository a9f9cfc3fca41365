/- What the program's IsSelfDual computes, and the reference's dual, as plain functions of lists. Conditions stand in each theorem. -/
import Derived.Test.YtncdgimmalifjaaQC
import Derived.Test.YtncdgimmalifjaaFB
namespace Go.Proofs.Ytncdgimmalifjaa.Q
open Go.RowKit Go.Proofs.YtncdgimmalifjaaW.PrintWords Go.Proofs.YtncdgimmalifjaaW.PrintLast Go.Proofs.YtncdgimmalifjaaW.PrintMore Go.Proofs.YtncdgimmalifjaaM
set_option linter.unusedVariables false
set_option linter.unusedSimpArgs false
theorem l5Dual_is (l : List Int) (n : Int) (hn : 0 ≤ n ∧ n ≤ 6) (hv : l.all inS = true) (hl : l.length < 9223372036854775807) (k : Nat) (hk : l.length + 200 < k) :
    spec_l5Dual.f k l n = some (upto (leastB fun x => !hasB l (anot (allOf n) x)) 64) := by
  have ha : inS (allOf n) = true := by
    obtain ⟨m, rfl⟩ := Int.eq_ofNat_of_zero_le hn.1
    exact allOf_in ⟨m, by omega⟩
  rw [spec_l5Dual.f, if_pos hn.1]
  have : spec_l5Dual.l0 k (wrap64 ((shl .i64 1 n) - 1)) 0 (List.replicate 64 false) l = _ := dual_l0 (allOf n) l hl _ rfl 64 k 0 _ (by omega) (by simp) (by simp) (by omega)
  rw [this, made_eq _ (up_dual hv _ ha)]
theorem Equal_l0 (l m : List Int) (hlm : l.length = m.length) (hl : l.length < 9223372036854775807) : ∀ (n k i : Nat), i + n = l.length → n < k → slices_Equal_int_int.l0 k l m (l.length : Int) (i : Int) = some (decide (l.drop i = m.drop i))
  | 0, k + 1, i, hi, _ => by
    have h1 : l.drop i = [] := List.drop_eq_nil_of_le (by omega)
    have h2 : m.drop i = [] := List.drop_eq_nil_of_le (by omega)
    rw [slices_Equal_int_int.l0, if_neg (by omega), h1, h2]; rfl
  | n + 1, k + 1, i, hi, hk => by
    have h : i < l.length := by omega
    have h' : i < m.length := by omega
    have hd : l.drop i = l[i] :: l.drop (i + 1) := List.drop_eq_getElem_cons h
    have hd' : m.drop i = m[i] :: m.drop (i + 1) := List.drop_eq_getElem_cons h'
    rw [slices_Equal_int_int.l0, if_pos (by omega), if_pos (by omega), if_pos (by omega), if_pos (by omega), rd_nat _ _ h, rd_nat _ _ h', w64 _ (by omega), Equal_l0 l m hlm hl n k (i + 1) (by omega) (by omega), hd, hd']
    by_cases he : l[i] = m[i]
    · rw [if_pos he]; congr 1; rw [decide_eq_decide]; exact ⟨fun h => by rw [he, h], fun h => (List.cons.inj h).2⟩
    · rw [if_neg he]; congr 1; exact (decide_eq_false fun h => he (List.cons.inj h).1).symm
theorem Equal_f (l m : List Int) (hl : l.length < 9223372036854775807) (k : Nat) (hk : l.length < k) : slices_Equal_int_int.f k l m = some (decide (l = m)) := by
  rw [slices_Equal_int_int.f]
  by_cases h : l.length = m.length
  · have := Equal_l0 l m h hl l.length k 0 (by omega) hk
    rw [if_pos (by omega)]
    simpa using this
  · rw [if_neg (by omega)]
    have : l ≠ m := fun e => h (by rw [e])
    simp [this]
open Classical in
theorem impl_IsSelfDual_is (l : List Int) (n : Int) (hl : l.length < 9223372036854775807) (k : Nat) (hk : l.length * (l.length + 2) + l.length + 4700 < k) :
    impl_IsSelfDual.f k l n = if (0 ≤ n ∧ n ≤ 6) ∧ within l n = true ∧ Valid l then some (decide (l = upto (leastB fun x => !hasB l (anot (allOf n) x)) 64), true) else some (false, false) := by
  rw [impl_IsSelfDual.f, impl_DualFamily_is l n hl k (by omega)]
  by_cases hv : (0 ≤ n ∧ n ≤ 6) ∧ within l n = true ∧ Valid l
  · rw [if_pos hv, if_pos hv, Option.bind_some]
    simp only [if_true]
    rw [Equal_f l _ hl k (by omega), Option.bind_some]
  · rw [if_neg hv, if_neg hv, Option.bind_some]; rfl
end Go.Proofs.Ytncdgimmalifjaa.Q
