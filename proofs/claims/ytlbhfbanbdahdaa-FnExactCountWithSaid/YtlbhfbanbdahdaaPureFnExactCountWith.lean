/- The program's CountWith and the reference's agree. Conditions stand in each theorem. -/
import Derived.Test.YtlbhfbanbdahdaaPFnExactCountWithx1
import Derived.Test.YtlbhfbanbdahdaaWI
namespace Go.Proofs.Ytlbhfbanbdahdaa.PFnExactCountWith
open Go.RowKit Go.Proofs.YtlbhfbanbdahdaaW.PrintWords Go.Proofs.YtlbhfbanbdahdaaW.PrintLast
set_option linter.unusedVariables false
set_option linter.unusedSimpArgs false
set_option linter.unusedSectionVars false
theorem w64 (i : Nat) (h : i < 9223372036854775807) : wrap64 ((i : Int) + 1) = ((i + 1 : Nat) : Int) := by
  unfold wrap64; omega
theorem rd_nat (l : List Int) (i : Nat) (h : i < l.length) : rd l (i : Int) = l[i] := by
  simp [rd, h]
/-- marks one after the other -/
def marks : Int → Nat → List Int
  | _, 0 => []
  | m, n + 1 => m :: marks (m + 1) n
theorem marks_len : ∀ (n : Nat) (m : Int), (marks m n).length = n
  | 0, _ => rfl
  | n + 1, m => by simp [marks, marks_len n]
theorem bindS {α β : Type} {o : Option α} {a : α} {f : α → Option β} {r : Option β} (h : o = some a) (h2 : f a = r) : o.bind f = r := by
  rw [h]; exact h2
theorem toIntS_l0 (l : List Int) (hl : l.length < 9223372036854775807) : ∀ (n k i : Nat), i + n = l.length → n < k → laws_toIntS.l0 k l (l.take i ++ List.replicate n 0) (i : Int) = some l
  | 0, k + 1, i, hi, _ => by
    have hi : i = l.length := by omega
    simp [laws_toIntS.l0, hi]
  | n + 1, k + 1, i, hi, hk => by
    have h : i < l.length := by omega
    have e : (l.take i ++ List.replicate (n + 1) (0 : Int)).set i l[i] = l.take (i + 1) ++ List.replicate n 0 := by
      have e2 : ∀ X : List Int, l.take (i + 1) ++ X = l.take i ++ (l[i] :: X) := fun X => by rw [← List.take_append_getElem h, List.append_assoc]; rfl
      rw [List.set_append_right _ _ (by simp; omega), e2, List.replicate_succ]
      simp [Nat.min_eq_left (Nat.le_of_lt h)]
    rw [laws_toIntS.l0, if_pos (by omega), if_pos (by omega), if_pos (by simp; omega), rd_nat _ _ h, w64 _ (by omega), Int.toNat_natCast, e]
    exact toIntS_l0 l hl n k (i + 1) (by omega) (by omega)
theorem toIntS_f (l : List Int) (k : Nat) (hl : l.length ≤ 35184372088832) (hk : l.length < k) : laws_toIntS.f k l = some l := by
  have := toIntS_l0 l (by omega) l.length k 0 (by omega) hk
  rw [laws_toIntS.f, if_pos (by omega), Int.toNat_natCast, if_pos hl]
  simpa using this
theorem eqIntS_l0 (l : List Int) (hl : l.length < 9223372036854775807) : ∀ (n k i : Nat), i + n = l.length → n < k → laws_eqIntS.l0 k l l (i : Int) = some true
  | 0, k + 1, i, hi, _ => by
    have hi : i = l.length := by omega
    simp [laws_eqIntS.l0, hi]
  | n + 1, k + 1, i, hi, hk => by
    rw [laws_eqIntS.l0, if_pos (by omega), if_pos (by omega), if_pos (by omega), if_pos rfl, w64 _ (by omega)]
    exact eqIntS_l0 l hl n k (i + 1) (by omega) (by omega)
theorem eqIntS_f (l : List Int) (k : Nat) (hl : l.length ≤ 35184372088832) (hk : l.length < k) : laws_eqIntS.f k l l = some true := by
  rw [laws_eqIntS.f, if_pos rfl]
  exact eqIntS_l0 l (by omega) l.length k 0 (by omega) hk
theorem szFamily_le (l : List Int) (h : l.length ≤ 1048576) : laws_szFamily.f l 1048576 = some (1048576 - (l.length : Int)) := by
  have e : wrap64 (1048576 - (l.length : Int)) = 1048576 - (l.length : Int) := by unfold wrap64; omega
  rw [laws_szFamily.f, laws_szIntS.f, e, if_neg (by omega), Option.bind_some, if_neg (by omega)]
theorem szFamily_gt (l : List Int) (h : 1048576 < l.length) (h2 : l.length ≤ 35184372088832) : laws_szFamily.f l 1048576 = some (-1) := by
  have e : wrap64 (1048576 - (l.length : Int)) = 1048576 - (l.length : Int) := by unfold wrap64; omega
  rw [laws_szFamily.f, laws_szIntS.f, e, if_pos (by omega), Option.bind_some, if_pos (by omega)]
theorem toFamily_f (l : List Int) (k : Nat) (hl : l.length ≤ 35184372088832) (hk : l.length < k) : laws_toFamily.f k l = some l := by
  rw [laws_toFamily.f, toIntS_f l k hl hk]; rfl
theorem eqFamily_f (l : List Int) (k : Nat) (hl : l.length ≤ 35184372088832) (hk : l.length < k) : laws_eqFamily.f k l l = some true := by
  rw [laws_eqFamily.f, eqIntS_f l k hl hk]; rfl
end Go.Proofs.Ytlbhfbanbdahdaa.PFnExactCountWith
namespace Go.Proofs.Ytlbhfbanbdahdaa.Pure
open Go.RowKit Go.Proofs.Ytlbhfbanbdahdaa.PFnExactCountWith Go.Proofs.YtlbhfbanbdahdaaW.PrintWords Go.Proofs.YtlbhfbanbdahdaaW.PrintLast
set_option linter.unusedVariables false
set_option linter.unusedSimpArgs false
theorem FnExactCountWith_law (f : List Int) (n L a : Int) (b : Bool) (hf : f.length ≤ 1048576)
    (hs : spec_CountWith.f f n L = some (a, b)) (hi : impl_CountWith.f f n L = some (a, b)) : laws_FnExactCountWith.f (f.length + 200) f n L = some true := by
  generalize hk : f.length + 190 = k
  have e : f.length + 200 = k + 10 := by omega
  rw [e]
  have hz := szFamily_le f hf
  unfold laws_FnExactCountWith.f
  rw [hz, Option.bind_some, if_neg (by omega), toFamily_f f _ (by omega) (by omega), Option.bind_some, hs, Option.bind_some, Option.bind_some, hi, Option.bind_some]
  dsimp only
  rw [if_pos rfl, laws_FnExactCountWith.j0, bne_self_eq_false, if_neg Bool.false_ne_true, toFamily_f f _ (by omega) (by omega), Option.bind_some, eqFamily_f f _ (by omega) (by omega), Option.bind_some, if_pos rfl]

open Classical in
/-- The program's CountWith and the reference's agree at every family and numbers. -/
theorem FnExactCountWith : laws_FnExactCountWith.Pure := by
  intro f n L _ hb _ _ _
  by_cases h2 : f.length ≤ 1048576
  · have hq : 0 ≤ f.length * (f.length + 2) := Nat.zero_le _
    have hq2 : f.length ≤ f.length * (f.length + 2) := Nat.le_mul_of_pos_right _ (by omega)
    have hg := Q.bigK_ge
    have e1 : spec_CountWith.f f n L = _ := Q.spec_CountWith_is f n L (by omega) Q.bigK (by omega)
    have e2 : impl_CountWith.f f n L = _ := Q.impl_CountWith_is f n L (by omega) (Q.bigK + f.length * (f.length + 2)) (by omega) (by omega)
    by_cases hv : Q.Valid f ∧ Q.sB n L
    · rw [if_pos hv] at e1 e2
      exact ⟨_, FnExactCountWith_law f n L _ true h2 e1 e2⟩
    · rw [if_neg hv] at e1 e2
      exact ⟨_, FnExactCountWith_law f n L 0 false h2 e1 e2⟩
  · exact ⟨0, by unfold laws_FnExactCountWith.f; rw [szFamily_gt f (by omega) (by omega), Option.bind_some, if_pos (by omega)]⟩
end Go.Proofs.Ytlbhfbanbdahdaa.Pure
