/- The plain law of OrFamily: the reference's function and the program's answer alike. No condition. -/
import Derived.Test.YtncdgimmalifjaaPRFnExactOrFamily
import Derived.Test.YtncdgimmalifjaaFE
namespace Go.Proofs.Ytncdgimmalifjaa.PFnExactOrFamily
open Go.RowKit Go.Proofs.YtncdgimmalifjaaW.PrintWords Go.Proofs.YtncdgimmalifjaaW.PrintLast
set_option linter.unusedVariables false
set_option linter.unusedSimpArgs false
set_option linter.unusedSectionVars false
open Go.Proofs.Ytncdgimmalifjaa.PFnExactAndFamily
theorem w64 (i : Nat) (h : i < 9223372036854775807) : wrap64 ((i : Int) + 1) = ((i + 1 : Nat) : Int) := by
  unfold wrap64; omega
theorem rd_nat (l : List Int) (i : Nat) (h : i < l.length) : rd l (i : Int) = l[i] := by
  simp [rd, h]
/-- marks one after the other -/
def marks : Int → Nat → List Int
  | _, 0 => []
  | m, n + 1 => m :: marks (m + 1) n
theorem marks_len : ∀ (n : Nat) (m : Int), (marks m n).length = n
  | 0, _ => rfl
  | n + 1, m => by simp [marks, marks_len n]
theorem bindS {α β : Type} {o : Option α} {a : α} {f : α → Option β} {r : Option β} (h : o = some a) (h2 : f a = r) : o.bind f = r := by
  rw [h]; exact h2
theorem toIntS_l0 (l : List Int) (hl : l.length < 9223372036854775807) : ∀ (n k i : Nat), i + n = l.length → n < k → laws_toIntS.l0 k l (l.take i ++ List.replicate n 0) (i : Int) = some l
  | 0, k + 1, i, hi, _ => by
    have hi : i = l.length := by omega
    simp [laws_toIntS.l0, hi]
  | n + 1, k + 1, i, hi, hk => by
    have h : i < l.length := by omega
    have e : (l.take i ++ List.replicate (n + 1) (0 : Int)).set i l[i] = l.take (i + 1) ++ List.replicate n 0 := by
      have e2 : ∀ X : List Int, l.take (i + 1) ++ X = l.take i ++ (l[i] :: X) := fun X => by rw [← List.take_append_getElem h, List.append_assoc]; rfl
      rw [List.set_append_right _ _ (by simp; omega), e2, List.replicate_succ]
      simp [Nat.min_eq_left (Nat.le_of_lt h)]
    rw [laws_toIntS.l0, if_pos (by omega), if_pos (by omega), if_pos (by simp; omega), rd_nat _ _ h, w64 _ (by omega), Int.toNat_natCast, e]
    exact toIntS_l0 l hl n k (i + 1) (by omega) (by omega)
theorem toIntS_f (l : List Int) (k : Nat) (hl : l.length ≤ 35184372088832) (hk : l.length < k) : laws_toIntS.f k l = some l := by
  have := toIntS_l0 l (by omega) l.length k 0 (by omega) hk
  rw [laws_toIntS.f, if_pos (by omega), Int.toNat_natCast, if_pos hl]
  simpa using this
theorem eqIntS_l0 (l : List Int) (hl : l.length < 9223372036854775807) : ∀ (n k i : Nat), i + n = l.length → n < k → laws_eqIntS.l0 k l l (i : Int) = some true
  | 0, k + 1, i, hi, _ => by
    have hi : i = l.length := by omega
    simp [laws_eqIntS.l0, hi]
  | n + 1, k + 1, i, hi, hk => by
    rw [laws_eqIntS.l0, if_pos (by omega), if_pos (by omega), if_pos (by omega), if_pos rfl, w64 _ (by omega)]
    exact eqIntS_l0 l hl n k (i + 1) (by omega) (by omega)
theorem eqIntS_f (l : List Int) (k : Nat) (hl : l.length ≤ 35184372088832) (hk : l.length < k) : laws_eqIntS.f k l l = some true := by
  rw [laws_eqIntS.f, if_pos rfl]
  exact eqIntS_l0 l (by omega) l.length k 0 (by omega) hk
theorem markIntS_l0 : ∀ (n k i : Nat) (l : List Int) (m : Int), l.length < 9223372036854775807 → i + n = l.length → n < k → 0 ≤ m → m + n < 9223372036854775807 → laws_markIntS.l0 k l m (i : Int) = some (m + n, l.take i ++ marks m n)
  | 0, k + 1, i, l, m, hl, hi, _, h0, hm => by
    have hi : i = l.length := by omega
    simp [laws_markIntS.l0, hi, marks]
  | n + 1, k + 1, i, l, m, hl, hi, hk, h0, hm => by
    have h : i < l.length := by omega
    have em : wrap64 (m + 1) = m + 1 := by unfold wrap64; omega
    rw [laws_markIntS.l0, if_pos (by omega), if_pos (by omega), w64 _ (by omega), Int.toNat_natCast, em, markIntS_l0 n k (i + 1) (l.set i m) (m + 1) (by simpa using hl) (by simp; omega) (by omega) (by omega) (by omega)]
    rw [List.take_add_one, List.take_set_of_le (Nat.le_refl _)]
    simp [h, marks]
    omega
theorem markIntS_f (l : List Int) (m : Int) (k : Nat) (hl : l.length ≤ 35184372088832) (hk : l.length < k) (h0 : 0 ≤ m) (hm : m ≤ 9000000000000000000) : laws_markIntS.f k l m = some (m + l.length, marks m l.length) := by
  have := markIntS_l0 l.length k 0 l m (by omega) (by omega) hk h0 (by omega)
  simpa [laws_markIntS.f] using this
theorem heldIntS_l0 (L : List Int) (hl : L.length < 9223372036854775807) : ∀ (n k i : Nat) (m : Int), L.drop i = marks m n → i + n = L.length → n < k → 0 ≤ m → m + n < 9223372036854775807 → laws_heldIntS.l0 k L m (i : Int) = some (m + n)
  | 0, k + 1, i, m, hd, hi, _, h0, hm => by
    have hi : i = L.length := by omega
    simp [laws_heldIntS.l0, hi]
  | n + 1, k + 1, i, m, hd, hi, hk, h0, hm => by
    have h : i < L.length := by omega
    have em : wrap64 (m + 1) = m + 1 := by unfold wrap64; omega
    rw [List.drop_eq_getElem_cons h, marks, List.cons.injEq] at hd
    rw [laws_heldIntS.l0, if_pos (by omega), if_pos (by omega), rd_nat _ _ h, if_pos hd.1, w64 _ (by omega), em, heldIntS_l0 L hl n k (i + 1) (m + 1) hd.2 (by omega) (by omega) (by omega) (by omega)]
    congr 1; omega
theorem heldIntS_f (m : Int) (n k : Nat) (hl : n ≤ 35184372088832) (hk : n < k) (h0 : 0 ≤ m) (hm : m ≤ 9000000000000000000) : laws_heldIntS.f k (marks m n) m = some (m + n) := by
  have := heldIntS_l0 (marks m n) (by rw [marks_len]; omega) n k 0 m (by simp) (by rw [marks_len]; omega) hk h0 (by omega)
  simpa [laws_heldIntS.f] using this
theorem szF_le (l : List Int) (a : Int) (ha : a ≤ 1048576) (h : (l.length : Int) ≤ a) : laws_szFamily.f l a = some (a - (l.length : Int)) := by
  have e : wrap64 (a - (l.length : Int)) = a - (l.length : Int) := by unfold wrap64; omega
  rw [laws_szFamily.f, laws_szIntS.f, e, if_neg (by omega), Option.bind_some, if_neg (by omega)]
theorem szF_gt (l : List Int) (a : Int) (ha : a ≤ 1048576) (h0 : 0 ≤ a) (h : a < (l.length : Int)) (h2 : l.length ≤ 35184372088832) : laws_szFamily.f l a = some (-1) := by
  have e : wrap64 (a - (l.length : Int)) = a - (l.length : Int) := by unfold wrap64; omega
  rw [laws_szFamily.f, laws_szIntS.f, e, if_pos (by omega), Option.bind_some, if_pos (by omega)]
theorem toFamily_g (l : List Int) (k : Nat) (hl : l.length ≤ 35184372088832) (hk : l.length < k) : laws_toFamily.f k l = some l := by
  rw [laws_toFamily.f, toIntS_f l k hl hk]; rfl
theorem eqFamily_g (l : List Int) (k : Nat) (hl : l.length ≤ 35184372088832) (hk : l.length < k) : laws_eqFamily.f k l l = some true := by
  rw [laws_eqFamily.f, eqIntS_f l k hl hk]; rfl
theorem markFamily_g (l : List Int) (m : Int) (k : Nat) (hl : l.length ≤ 35184372088832) (hk : l.length < k) (h0 : 0 ≤ m) (hm : m ≤ 9000000000000000000) : laws_markFamily.f k l m = some (m + l.length, marks m l.length) := by
  rw [laws_markFamily.f, markIntS_f l m k hl hk h0 hm]; rfl
theorem heldFamily_g (m : Int) (n k : Nat) (hl : n ≤ 35184372088832) (hk : n < k) (h0 : 0 ≤ m) (hm : m ≤ 9000000000000000000) : laws_heldFamily.f k (marks m n) m = some (m + n) := by
  rw [laws_heldFamily.f, heldIntS_f m n k hl hk h0 hm, Option.bind_some, if_neg (by omega)]
end Go.Proofs.Ytncdgimmalifjaa.PFnExactOrFamily
namespace Go.Proofs.Ytncdgimmalifjaa.Pure
open Go.RowKit Go.Proofs.Ytncdgimmalifjaa.PFnExactOrFamily Go.Proofs.YtncdgimmalifjaaW.PrintWords Go.Proofs.YtncdgimmalifjaaW.PrintLast
set_option linter.unusedVariables false
set_option linter.unusedSimpArgs false
open Go.Proofs.Ytncdgimmalifjaa.PFnExactAndFamily
theorem FnExactOrFamily_law (l m x : List Int) (b : Bool) (hl : l.length ≤ 1048576) (hm : (m.length : Int) ≤ 1048576 - (l.length : Int)) (hx : x.length ≤ 64) (k : Nat) (hk : l.length + m.length + 100 < k)
    (hs : Q.spec_OrFamily.f k l m = some (x, b)) (hi : Q.impl_OrFamily.f k l m = some (x, b)) : Q.laws_FnExactOrFamily.f k l m = some true := by
  have hz1 := szF_le l 1048576 (by omega) (by omega)
  have hz2 := szF_le m (1048576 - (l.length : Int)) (by omega) hm
  have tl := toFamily_g l k (by omega) (by omega)
  have tm := toFamily_g m k (by omega) (by omega)
  have el := eqFamily_g l k (by omega) (by omega)
  have em := eqFamily_g m k (by omega) (by omega)
  have ex := eqFamily_g x k (by omega) (by omega)
  have kl := markFamily_g l 1 k (by omega) (by omega) (by omega) (by omega)
  have km := markFamily_g m (1 + (l.length : Int)) k (by omega) (by omega) (by omega) (by omega)
  have kx := markFamily_g x 1 k (by omega) (by omega) (by omega) (by omega)
  have hx1 := heldFamily_g 1 x.length k (by omega) (by omega) (by omega) (by omega)
  have n1 : ¬ (1048576 - (l.length : Int) < 0) := by omega
  have n2 : ¬ (1048576 - (l.length : Int) - (m.length : Int) < 0) := by omega
  have n3 : ¬ (1 + (l.length : Int) + (m.length : Int) < 0) := by omega
  have n4 : ¬ (1 + (x.length : Int) < 0) := by omega
  unfold Q.laws_FnExactOrFamily.f
  refine bindS hz1 ?_
  rw [if_neg n1]
  refine bindS hz2 ?_
  rw [if_neg n2]
  refine bindS tl (bindS tm (bindS hs (bindS tl (bindS tm (bindS hi (bindS ex ?_))))))
  dsimp only
  rw [if_pos rfl, bne_self_eq_false, if_neg Bool.false_ne_true]
  refine bindS tl (bindS el ?_)
  rw [if_pos rfl]
  refine bindS tm (bindS em ?_)
  rw [if_pos rfl]
  refine bindS kl (bindS km ?_)
  dsimp only
  rw [if_neg n3]
  refine bindS ex ?_
  rw [if_pos rfl]
  refine bindS kx (bindS hx1 ?_)
  dsimp only
  rw [if_neg n4, if_pos rfl]
  refine bindS tl (bindS tm (bindS hi (bindS ex ?_)))
  dsimp only
  rw [if_pos rfl, bne_self_eq_false, if_neg Bool.false_ne_true]
  refine bindS hx1 ?_
  rw [if_neg n4, if_pos rfl]
open Classical in
/-- The program's OrFamily and the reference's agree at every two families. -/
theorem FnExactOrFamily : laws_FnExactOrFamily.Pure := by
  intro l m _ hl0 _ _ hm0 _
  by_cases h : l.length ≤ 1048576
  · by_cases h2 : (m.length : Int) ≤ 1048576 - (l.length : Int)
    · obtain ⟨⟨x, b⟩, hr⟩ : ∃ r, r = (if Q.Valid l ∧ Q.Valid m then (Q.upto (Q.leastB (Q.bothB false l m)) 64, true) else ([], false)) := ⟨_, rfl⟩
      have hx : x.length ≤ 64 := by
        have e : x = ((x, b) : List Int × Bool).1 := rfl
        rw [e, hr]
        split
        · exact Q.upto_len _ _
        · simp
      have h3 := Q.or_is l m (by omega) (by omega) (l.length * (l.length + 2) + m.length * (m.length + 2) + l.length + m.length + 5000) (by omega) _ hr
      exact ⟨_, FnExactOrFamily_law l m x b h h2 hx _ (by have := Nat.zero_le (l.length * (l.length + 2)); have := Nat.zero_le (m.length * (m.length + 2)); omega) h3.1 h3.2⟩
    · refine ⟨0, ?_⟩
      unfold Q.laws_FnExactOrFamily.f
      refine bindS (szF_le l 1048576 (by omega) (by omega)) ?_
      rw [if_neg (by omega)]
      refine bindS (szF_gt m _ (by omega) (by omega) (by omega) (by omega)) ?_
      rw [if_pos (by omega)]
  · refine ⟨0, ?_⟩
    unfold Q.laws_FnExactOrFamily.f
    refine bindS (szF_gt l 1048576 (by omega) (by omega) (by omega) (by omega)) ?_
    rw [if_pos (by omega)]
end Go.Proofs.Ytncdgimmalifjaa.Pure
