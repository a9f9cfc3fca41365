/- The program's WindingsOf and the reference's agree at every word. No condition. -/
import Derived.Test.YtajphpfbihilmaaPFnExactWindingsOfx0
import Derived.Test.YtajphpfbihilmaaW1
namespace Go.Proofs.Ytajphpfbihilmaa.PFnExactWindingsOf
open Go.RowKit Go.Proofs.YtajphpfbihilmaaW.PrintWords Go.Proofs.YtajphpfbihilmaaW.PrintLast
set_option linter.unusedVariables false
set_option linter.unusedSimpArgs false
set_option linter.unusedSectionVars false
theorem w64 (i : Nat) (h : i < 9223372036854775807) : wrap64 ((i : Int) + 1) = ((i + 1 : Nat) : Int) := by
  unfold wrap64; omega
theorem rd_nat (l : List Int) (i : Nat) (h : i < l.length) : rd l (i : Int) = l[i] := by
  simp [rd, h]
/-- marks one after the other -/
def marks : Int → Nat → List Int
  | _, 0 => []
  | m, n + 1 => m :: marks (m + 1) n
theorem marks_len : ∀ (n : Nat) (m : Int), (marks m n).length = n
  | 0, _ => rfl
  | n + 1, m => by simp [marks, marks_len n]
theorem bindS {α β : Type} {o : Option α} {a : α} {f : α → Option β} {r : Option β} (h : o = some a) (h2 : f a = r) : o.bind f = r := by
  rw [h]; exact h2
open Go.Proofs.Ytajphpfbihilmaa.KL
theorem toIntS_l0 (l : List Int) (hl : l.length < 9223372036854775807) : ∀ (n k i : Nat), i + n = l.length → n < k → laws_toIntS.l0 k l (l.take i ++ List.replicate n 0) (i : Int) = some l
  | 0, k + 1, i, hi, _ => by
    have hi : i = l.length := by omega
    simp [laws_toIntS.l0, hi]
  | n + 1, k + 1, i, hi, hk => by
    have h : i < l.length := by omega
    have e : (l.take i ++ List.replicate (n + 1) (0 : Int)).set i l[i] = l.take (i + 1) ++ List.replicate n 0 := by
      have e2 : ∀ X : List Int, l.take (i + 1) ++ X = l.take i ++ (l[i] :: X) := fun X => by rw [← List.take_append_getElem h, List.append_assoc]; rfl
      rw [List.set_append_right _ _ (by simp; omega), e2, List.replicate_succ]
      simp [Nat.min_eq_left (Nat.le_of_lt h)]
    rw [laws_toIntS.l0, if_pos (by omega), if_pos (by omega), if_pos (by simp; omega), rd_nat _ _ h, w64 _ (by omega), Int.toNat_natCast, e]
    exact toIntS_l0 l hl n k (i + 1) (by omega) (by omega)
theorem toIntS_f (l : List Int) (k : Nat) (hl : l.length ≤ 35184372088832) (hk : l.length < k) : laws_toIntS.f k l = some l := by
  have := toIntS_l0 l (by omega) l.length k 0 (by omega) hk
  rw [laws_toIntS.f, if_pos (by omega), Int.toNat_natCast, if_pos hl]
  simpa using this
theorem eqIntS_l0 (l : List Int) (hl : l.length < 9223372036854775807) : ∀ (n k i : Nat), i + n = l.length → n < k → laws_eqIntS.l0 k l l (i : Int) = some true
  | 0, k + 1, i, hi, _ => by
    have hi : i = l.length := by omega
    simp [laws_eqIntS.l0, hi]
  | n + 1, k + 1, i, hi, hk => by
    rw [laws_eqIntS.l0, if_pos (by omega), if_pos (by omega), if_pos (by omega), if_pos rfl, w64 _ (by omega)]
    exact eqIntS_l0 l hl n k (i + 1) (by omega) (by omega)
theorem eqIntS_f (l : List Int) (k : Nat) (hl : l.length ≤ 35184372088832) (hk : l.length < k) : laws_eqIntS.f k l l = some true := by
  rw [laws_eqIntS.f, if_pos rfl]
  exact eqIntS_l0 l (by omega) l.length k 0 (by omega) hk
theorem eqA7_l0 (m : List Int) (d : Nat) : ∀ (k i : Nat), i + d = 7 → d < k → Q.laws_eqIntA7.l0 k (i : Int) m m = some true := by
  induction d with
  | zero =>
    intro k i hi hk
    obtain ⟨k, rfl⟩ : ∃ q, k = q + 1 := ⟨k - 1, by omega⟩
    rw [Q.laws_eqIntA7.l0, if_neg (by omega)]
  | succ d ih =>
    intro k i hi hk
    obtain ⟨k, rfl⟩ : ∃ q, k = q + 1 := ⟨k - 1, by omega⟩
    rw [Q.laws_eqIntA7.l0, if_pos (by omega), if_pos (by omega), if_pos rfl, w64 i (by omega)]
    exact ih k (i + 1) (by omega) (by omega)
theorem eqA7_f (m : List Int) (k : Nat) (hk : 7 < k) : Q.laws_eqIntA7.f k m m = some true := eqA7_l0 m 7 k 0 (by omega) hk
end Go.Proofs.Ytajphpfbihilmaa.PFnExactWindingsOf
namespace Go.Proofs.Ytajphpfbihilmaa.Pure
open Go.RowKit Go.Proofs.Ytajphpfbihilmaa.PFnExactWindingsOf Go.Proofs.YtajphpfbihilmaaW.PrintWords Go.Proofs.YtajphpfbihilmaaW.PrintLast
set_option linter.unusedVariables false
set_option linter.unusedSimpArgs false
open Go.Proofs.Ytajphpfbihilmaa.KL
theorem FnExactWindingsOf_law (l r : List Int) (b : Bool) (hl : l.length ≤ 1048576) (k : Nat) (hk : 2 * l.length + 700 < k)
    (hs : Q.spec_WindingsOf.f k l = some (r, b)) (hi : Q.impl_WindingsOf.f k l = some (r, b)) : Q.laws_FnExactWindingsOf.f k l = some true := by
  have ht := toIntS_f l k (by omega) (by omega)
  have he := eqIntS_f l k (by omega) (by omega)
  have h7 := eqA7_f r k (by omega)
  unfold Q.laws_FnExactWindingsOf.f
  rw [if_neg (by omega)]
  refine bindS ht ?_
  refine bindS hs ?_
  refine bindS ht ?_
  refine bindS hi ?_
  refine bindS h7 ?_
  dsimp only
  rw [if_pos rfl, bne_self_eq_false, if_neg Bool.false_ne_true]
  refine bindS ht ?_
  refine bindS he ?_
  rw [if_pos rfl]
/-- The program's WindingsOf and the reference's agree at every word. -/
theorem FnExactWindingsOf : laws_FnExactWindingsOf.Pure := by
  intro l _ _ _
  by_cases h : l.length ≤ 1048576
  · obtain ⟨⟨r, b⟩, hr⟩ : ∃ r, r = (if Q.okW l = true then (Q.win l, true) else (List.replicate 7 0, false)) := ⟨_, rfl⟩
    have h2 := Q.windings_is l (by omega) (2 * l.length + 1000) (by omega) _ hr
    exact ⟨_, FnExactWindingsOf_law l r b h _ (by omega) h2.2 h2.1⟩
  · exact ⟨0, by unfold Q.laws_FnExactWindingsOf.f; rw [if_pos (by omega)]⟩
end Go.Proofs.Ytajphpfbihilmaa.Pure
