/- AndFamily and OrFamily: what the program and the reference answer. Conditions stand in each theorem. -/
import Derived.Test.YtncdgimmalifjaaQF
import Derived.Test.YtncdgimmalifjaaFB
namespace Go.Proofs.Ytncdgimmalifjaa.Q
open Go.RowKit Go.Proofs.YtncdgimmalifjaaW.PrintWords Go.Proofs.YtncdgimmalifjaaW.PrintLast Go.Proofs.YtncdgimmalifjaaW.PrintMore Go.Proofs.YtncdgimmalifjaaM
set_option linter.unusedVariables false
set_option linter.unusedSimpArgs false
def opB (and : Bool) (a b : Bool) : Bool := if and = true then a && b else a || b
def bothB (and : Bool) (l m : List Int) (x : Int) : Bool := opB and (hasB l x) (hasB m x)
theorem set_drop (m : List Bool) (i : Nat) (v : Bool) (hm : i < m.length) : (m.set i v).drop (i + 1) = m.drop (i + 1) := List.drop_set_of_lt (by omega)
theorem both_l0 (and : Bool) (l m : List Int) (d : Nat) : ∀ (k i : Nat) (z : List Bool), i + d = 64 → z.length = 64 → z.take i = ((List.range i).map fun j => bothB and l m ((j : Nat) : Int)) → z.drop i = (tb (hasB l)).drop i → d + 100 < k →
    spec_l5Both.l0 k and (i : Int) (tb (hasB m)) z = some (upto (edgeB (bothB and l m)) 64, true) := by
  induction d with
  | zero =>
    intro k i z hi hz ht hd hk
    obtain ⟨k, rfl⟩ : ∃ q, k = q + 1 := ⟨k - 1, by omega⟩
    have hi : i = 64 := by omega
    have e : z.take i = z := List.take_of_length_le (by omega)
    rw [e, hi] at ht
    rw [spec_l5Both.l0, if_neg (by omega), ht]
    show (spec_l5Made.f k (tb (bothB and l m))).bind _ = _
    rw [l5Made_f _ k (by omega)]; rfl
  | succ d ih =>
    intro k i z hi hz ht hd hk
    obtain ⟨k, rfl⟩ : ∃ q, k = q + 1 := ⟨k - 1, by omega⟩
    have a1 : ((i : Nat) : Int) < 64 := by omega
    have a2 : (0 : Int) ≤ ((i : Nat) : Int) := by omega
    have ei := w64 i (by omega)
    have hz0 : rdOf false z (i : Int) = hasB l (i : Int) := by
      rw [rdOf_nat false z i (by omega)]
      have h1 : z.drop i = z[i] :: z.drop (i + 1) := List.drop_eq_getElem_cons (by omega)
      have h2 : (tb (hasB l)).drop i = (tb (hasB l))[i]'(by rw [tb_len]; omega) :: (tb (hasB l)).drop (i + 1) := List.drop_eq_getElem_cons (by rw [tb_len]; omega)
      rw [h1, h2] at hd
      have h3 := (List.cons.inj hd).1
      rw [h3, ← rdOf_nat false (tb (hasB l)) i (by rw [tb_len]; omega), tb_rd _ _ a2 a1]
    have hm0 : rdOf false (tb (hasB m)) (i : Int) = hasB m (i : Int) := tb_rd _ _ a2 a1
    have hnext : ∀ v, v = bothB and l m (i : Int) → spec_l5Both.l0 k and ((i + 1 : Nat) : Int) (tb (hasB m)) (z.set (i : Int).toNat v) = some (upto (edgeB (bothB and l m)) 64, true) := by
      intro v hv
      rw [Int.toNat_natCast, hv]
      refine ih k (i + 1) _ (by omega) (by simp [hz]) (set_range (bothB and l m) z i hz (by omega) ht) ?_ (by omega)
      rw [set_drop z i _ (by omega)]
      have h4 := congrArg (List.drop 1) hd
      rw [List.drop_drop, List.drop_drop] at h4
      exact h4
    rw [spec_l5Both.l0, if_pos a1, ei]
    unfold bothB opB at hnext
    cases and with
    | true =>
      rw [if_pos rfl, if_pos a2, hz0, hm0]
      cases hl : hasB l (i : Int) with
      | true => rw [if_pos rfl]; exact hnext _ (by rw [hl]; rfl)
      | false => rw [if_neg Bool.false_ne_true]; exact hnext _ (by rw [hl]; rfl)
    | false =>
      rw [if_neg Bool.false_ne_true, if_pos a2, hz0, hm0]
      cases hl : hasB l (i : Int) with
      | true => rw [if_pos rfl]; exact hnext _ (by rw [hl]; rfl)
      | false => rw [if_neg Bool.false_ne_true]; exact hnext _ (by rw [hl]; rfl)
theorem up_both (and : Bool) {l m : List Int} (hl : l.all inS = true) (hm : m.all inS = true) : up (bothB and l m) := by
  intro y x hy hx h hp
  have h1 : hasB l y = true → hasB l x = true := fun h2 => up_has l hl y x hy hx h h2
  have h2 : hasB m y = true → hasB m x = true := fun h2 => up_has m hm y x hy hx h h2
  unfold bothB opB at hp ⊢
  cases and
  · simp only [Bool.false_eq_true, if_false, Bool.or_eq_true] at hp ⊢
    rcases hp with h3 | h3
    · exact .inl (h1 h3)
    · exact .inr (h2 h3)
  · simp only [if_true, Bool.and_eq_true] at hp ⊢
    exact ⟨h1 hp.1, h2 hp.2⟩
theorem tbM (l : List Int) : (tb fun x => l.any fun a => pt a x) = tb (hasB l) := rfl
open Classical in
theorem l5Both_is (and : Bool) (l m : List Int) (hl : l.length < 9223372036854775807) (hm : m.length < 9223372036854775807) (k : Nat) (hk : l.length * (l.length + 2) + m.length * (m.length + 2) + l.length + m.length + 4900 < k) :
    spec_l5Both.f k l m and = some (if Valid l ∧ Valid m then (upto (leastB (bothB and l m)) 64, true) else ([], false)) := by
  rw [spec_l5Both.f, l5Family_is l k hl (by omega), Option.bind_some]
  by_cases hv : Valid l
  · rw [if_pos (decide_eq_true hv), l5Family_is m k hm (by omega), Option.bind_some]
    by_cases hv2 : Valid m
    · rw [if_pos (decide_eq_true hv2), l5Members_f l hl k (by omega), Option.bind_some, l5Members_f m hm k (by omega), Option.bind_some, if_pos ⟨hv, hv2⟩, tbM, tbM]
      have h := both_l0 and l m 64 k 0 (tb (hasB l)) (by omega) (tb_len _) (by simp) rfl (by omega)
      rw [made_eq _ (up_both and (valid_in hv) (valid_in hv2))] at h
      exact h
    · rw [if_neg (by simp [hv2]), if_neg (fun h => hv2 h.2)]
  · rw [if_neg (by simp [hv]), if_neg (fun h => hv h.1)]
open Classical in
theorem areFamilies_is (l m : List Int) (hl : l.length < 9223372036854775807) (hm : m.length < 9223372036854775807) (k : Nat) (hk : l.length * (l.length + 2) + m.length * (m.length + 2) + l.length + m.length + 4900 < k) : impl_areFamilies.f k [l, m] = some (decide (Valid l) && decide (Valid m)) := by
  obtain ⟨q, rfl⟩ : ∃ q, k = q + 3 := ⟨k - 3, by omega⟩
  have e0 : rdOf [] [l, m] 0 = l ∧ rdOf [] [l, m] 1 = m := ⟨rfl, rfl⟩
  have h1 := isFamily_is l (q + 3) hl (by omega)
  have h2 := isFamily_is m (q + 3) hm (by omega)
  have e1 : wrap64 ((0 : Int) + 1) = 1 := by decide +kernel
  have e2 : wrap64 ((1 : Int) + 1) = 2 := by decide +kernel
  rw [impl_areFamilies.f, slices_ContainsFunc_impl_Family_impl_Family.f, slices_IndexFunc_impl_Family_impl_Family.f, slices_IndexFunc_impl_Family_impl_Family.l0, if_pos (by simp), if_pos (by omega), if_pos (by simp), e0.1, impl_areFamilies_1.f, h1, Option.bind_some, Option.bind_some]
  by_cases hv : Valid l
  · rw [decide_eq_true hv, if_neg (by simp), e1, slices_IndexFunc_impl_Family_impl_Family.l0, if_pos (by simp), if_pos (by omega), if_pos (by simp), e0.2, impl_areFamilies_1.f, h2, Option.bind_some, Option.bind_some]
    by_cases hv2 : Valid m
    · rw [decide_eq_true hv2, if_neg (by simp), e2, slices_IndexFunc_impl_Family_impl_Family.l0, if_neg (by simp)]; rfl
    · rw [decide_eq_false hv2, if_pos (by simp)]; rfl
  · rw [decide_eq_false hv, if_pos (by simp)]; rfl
open Classical in
theorem and_is (l m : List Int) (hl : l.length < 9223372036854775807) (hm : m.length < 9223372036854775807) (k : Nat) (hk : l.length * (l.length + 2) + m.length * (m.length + 2) + l.length + m.length + 4900 < k) (r : List Int × Bool) (hr : r = if Valid l ∧ Valid m then (upto (leastB (bothB true l m)) 64, true) else ([], false)) :
    spec_AndFamily.f k l m = some r ∧ impl_AndFamily.f k l m = some r := by
  constructor
  · rw [spec_AndFamily.f, l5Both_is true l m hl hm k hk, Option.bind_some, hr]
  · rw [impl_AndFamily.f, areFamilies_is l m hl hm k hk, Option.bind_some, hr]
    by_cases hv : Valid l ∧ Valid m
    · have hb : (decide (Valid l) && decide (Valid m)) = true := by simp [hv.1, hv.2]
      rw [if_pos hb, if_pos hv, familyOf_f _ (bothB true l m) (fun x _ _ => by
        rw [impl_AndFamily_1.f, has_f l _ k hl (by omega), Option.bind_some, has_f m _ k hm (by omega)]
        show _ = some (hasB l x && hasB m x)
        show (if hasB l x = true then (some (hasB m x)).bind fun t212 => some t212 else some false) = _
        cases hasB l x <;> rfl) k (by omega)]; rfl
    · have hb : ¬ (decide (Valid l) && decide (Valid m)) = true := by simpa using hv
      rw [if_neg hb, if_neg hv]
open Classical in
theorem or_is (l m : List Int) (hl : l.length < 9223372036854775807) (hm : m.length < 9223372036854775807) (k : Nat) (hk : l.length * (l.length + 2) + m.length * (m.length + 2) + l.length + m.length + 4900 < k) (r : List Int × Bool) (hr : r = if Valid l ∧ Valid m then (upto (leastB (bothB false l m)) 64, true) else ([], false)) :
    spec_OrFamily.f k l m = some r ∧ impl_OrFamily.f k l m = some r := by
  constructor
  · rw [spec_OrFamily.f, l5Both_is false l m hl hm k hk, Option.bind_some, hr]
  · rw [impl_OrFamily.f, areFamilies_is l m hl hm k hk, Option.bind_some, hr]
    by_cases hv : Valid l ∧ Valid m
    · have hb : (decide (Valid l) && decide (Valid m)) = true := by simp [hv.1, hv.2]
      rw [if_pos hb, if_pos hv, familyOf_f _ (bothB false l m) (fun x _ _ => by
        rw [impl_OrFamily_1.f, has_f l _ k hl (by omega), Option.bind_some, has_f m _ k hm (by omega)]
        show (if hasB l x = true then some true else (some (hasB m x)).bind fun t => some t) = some (hasB l x || hasB m x)
        cases hasB l x <;> rfl) k (by omega)]; rfl
    · have hb : ¬ (decide (Valid l) && decide (Valid m)) = true := by simpa using hv
      rw [if_neg hb, if_neg hv]
end Go.Proofs.Ytncdgimmalifjaa.Q
