/- ThresholdFamily of the program returns what the reference's returns, for all arguments: both make the list of all least sets with so many of the first nails. No condition. -/
import Derived.Test.YtncdgimmalifjaaPFnExactThresholdFamilyx2
import Derived.Test.YtncdgimmalifjaaTH
namespace Go.Proofs.Ytncdgimmalifjaa.PFnExactThresholdFamily
open Go.RowKit Go.Proofs.YtncdgimmalifjaaW.PrintWords Go.Proofs.YtncdgimmalifjaaW.PrintLast
set_option linter.unusedVariables false
set_option linter.unusedSimpArgs false
set_option linter.unusedSectionVars false
theorem w64 (i : Nat) (h : i < 9223372036854775807) : wrap64 ((i : Int) + 1) = ((i + 1 : Nat) : Int) := by
  unfold wrap64; omega
theorem rd_nat (l : List Int) (i : Nat) (h : i < l.length) : rd l (i : Int) = l[i] := by
  simp [rd, h]
/-- marks one after the other -/
def marks : Int → Nat → List Int
  | _, 0 => []
  | m, n + 1 => m :: marks (m + 1) n
theorem marks_len : ∀ (n : Nat) (m : Int), (marks m n).length = n
  | 0, _ => rfl
  | n + 1, m => by simp [marks, marks_len n]
theorem bindS {α β : Type} {o : Option α} {a : α} {f : α → Option β} {r : Option β} (h : o = some a) (h2 : f a = r) : o.bind f = r := by
  rw [h]; exact h2
theorem eqIntS_l0 (l : List Int) (hl : l.length < 9223372036854775807) : ∀ (n k i : Nat), i + n = l.length → n < k → laws_eqIntS.l0 k l l (i : Int) = some true
  | 0, k + 1, i, hi, _ => by
    have hi : i = l.length := by omega
    simp [laws_eqIntS.l0, hi]
  | n + 1, k + 1, i, hi, hk => by
    rw [laws_eqIntS.l0, if_pos (by omega), if_pos (by omega), if_pos (by omega), if_pos rfl, w64 _ (by omega)]
    exact eqIntS_l0 l hl n k (i + 1) (by omega) (by omega)
theorem eqIntS_f (l : List Int) (k : Nat) (hl : l.length ≤ 35184372088832) (hk : l.length < k) : laws_eqIntS.f k l l = some true := by
  rw [laws_eqIntS.f, if_pos rfl]
  exact eqIntS_l0 l (by omega) l.length k 0 (by omega) hk
theorem markIntS_l0 : ∀ (n k i : Nat) (l : List Int) (m : Int), l.length < 9223372036854775807 → i + n = l.length → n < k → 0 ≤ m → m + n < 9223372036854775807 → laws_markIntS.l0 k l m (i : Int) = some (m + n, l.take i ++ marks m n)
  | 0, k + 1, i, l, m, hl, hi, _, h0, hm => by
    have hi : i = l.length := by omega
    simp [laws_markIntS.l0, hi, marks]
  | n + 1, k + 1, i, l, m, hl, hi, hk, h0, hm => by
    have h : i < l.length := by omega
    have em : wrap64 (m + 1) = m + 1 := by unfold wrap64; omega
    rw [laws_markIntS.l0, if_pos (by omega), if_pos (by omega), w64 _ (by omega), Int.toNat_natCast, em, markIntS_l0 n k (i + 1) (l.set i m) (m + 1) (by simpa using hl) (by simp; omega) (by omega) (by omega) (by omega)]
    rw [List.take_add_one, List.take_set_of_le (Nat.le_refl _)]
    simp [h, marks]
    omega
theorem markIntS_f (l : List Int) (m : Int) (k : Nat) (hl : l.length ≤ 35184372088832) (hk : l.length < k) (h0 : 0 ≤ m) (hm : m ≤ 9000000000000000000) : laws_markIntS.f k l m = some (m + l.length, marks m l.length) := by
  have := markIntS_l0 l.length k 0 l m (by omega) (by omega) hk h0 (by omega)
  simpa [laws_markIntS.f] using this
theorem heldIntS_l0 (L : List Int) (hl : L.length < 9223372036854775807) : ∀ (n k i : Nat) (m : Int), L.drop i = marks m n → i + n = L.length → n < k → 0 ≤ m → m + n < 9223372036854775807 → laws_heldIntS.l0 k L m (i : Int) = some (m + n)
  | 0, k + 1, i, m, hd, hi, _, h0, hm => by
    have hi : i = L.length := by omega
    simp [laws_heldIntS.l0, hi]
  | n + 1, k + 1, i, m, hd, hi, hk, h0, hm => by
    have h : i < L.length := by omega
    have em : wrap64 (m + 1) = m + 1 := by unfold wrap64; omega
    rw [List.drop_eq_getElem_cons h, marks, List.cons.injEq] at hd
    rw [laws_heldIntS.l0, if_pos (by omega), if_pos (by omega), rd_nat _ _ h, if_pos hd.1, w64 _ (by omega), em, heldIntS_l0 L hl n k (i + 1) (m + 1) hd.2 (by omega) (by omega) (by omega) (by omega)]
    congr 1; omega
theorem heldIntS_f (m : Int) (n k : Nat) (hl : n ≤ 35184372088832) (hk : n < k) (h0 : 0 ≤ m) (hm : m ≤ 9000000000000000000) : laws_heldIntS.f k (marks m n) m = some (m + n) := by
  have := heldIntS_l0 (marks m n) (by rw [marks_len]; omega) n k 0 m (by simp) (by rw [marks_len]; omega) hk h0 (by omega)
  simpa [laws_heldIntS.f] using this
theorem eqFamily_f (l : List Int) (k : Nat) (hl : l.length ≤ 35184372088832) (hk : l.length < k) : laws_eqFamily.f k l l = some true := by
  rw [laws_eqFamily.f, eqIntS_f l k hl hk]; rfl
theorem markFamily_f (l : List Int) (m : Int) (k : Nat) (hl : l.length ≤ 35184372088832) (hk : l.length < k) (h0 : 0 ≤ m) (hm : m ≤ 9000000000000000000) : laws_markFamily.f k l m = some (m + l.length, marks m l.length) := by
  rw [laws_markFamily.f, markIntS_f l m k hl hk h0 hm]; rfl
theorem heldFamily_f (m : Int) (n k : Nat) (hl : n ≤ 35184372088832) (hk : n < k) (h0 : 0 ≤ m) (hm : m ≤ 9000000000000000000) : laws_heldFamily.f k (marks m n) m = some (m + n) := by
  rw [laws_heldFamily.f, heldIntS_f m n k hl hk h0 hm, Option.bind_some, if_neg (by omega)]
end Go.Proofs.Ytncdgimmalifjaa.PFnExactThresholdFamily
namespace Go.Proofs.Ytncdgimmalifjaa.Pure
open Go.RowKit Go.Proofs.Ytncdgimmalifjaa.PFnExactThresholdFamily Go.Proofs.YtncdgimmalifjaaW.PrintWords Go.Proofs.YtncdgimmalifjaaW.PrintLast
set_option linter.unusedVariables false
set_option linter.unusedSimpArgs false
theorem FnExactThresholdFamily_law (n kk : Int) (r : List Int) (b : Bool) (hr : r.length ≤ 35184372088832)
    (hs : spec_ThresholdFamily.f n kk = some (r, b)) (hi : impl_ThresholdFamily.f n kk = some (r, b)) : laws_FnExactThresholdFamily.f (r.length + 100) n kk = some true := by
  generalize hk : r.length + 90 = k
  have e : r.length + 100 = k + 10 := by omega
  rw [e]
  unfold laws_FnExactThresholdFamily.f
  repeat (first
    | exact rfl
    | refine bindS hs ?_
    | refine bindS hi ?_
    | refine bindS (eqIntS_f _ _ (by omega) (by omega)) ?_
    | refine bindS (markIntS_f _ _ _ (by omega) (by omega) (by omega) (by omega)) ?_
    | refine bindS (heldIntS_f _ _ _ (by omega) (by omega) (by omega) (by omega)) ?_
    | refine bindS (eqFamily_f _ _ (by omega) (by omega)) ?_
    | refine bindS (markFamily_f _ _ _ (by omega) (by omega) (by omega) (by omega)) ?_
    | refine bindS (heldFamily_f _ _ _ (by omega) (by omega) (by omega) (by omega)) ?_
    | refine (if_pos rfl).trans ?_
    | refine (if_neg Bool.false_ne_true).trans ?_
    | refine (if_neg (by omega)).trans ?_
    | refine (if_pos (by omega)).trans ?_
    | rw [laws_FnExactThresholdFamily.j0]
    | rw [laws_FnExactThresholdFamily.j1]
    | rw [bne_self_eq_false]
    | dsimp only)

/-- The program's ThresholdFamily and the reference's agree at every pair of numbers. -/
theorem FnExactThresholdFamily : laws_FnExactThresholdFamily.Pure := by
  intro n kk _ _
  have e1 : spec_ThresholdFamily.f n kk = _ := Q.spec_ThresholdFamily_is n kk 6000 (by omega)
  have e2 : impl_ThresholdFamily.f n kk = _ := Q.impl_ThresholdFamily_is n kk 6000 (by omega)
  by_cases hv : (0 ≤ n ∧ n ≤ 6) ∧ 0 ≤ kk ∧ kk ≤ n + 1
  · rw [if_pos hv] at e1 e2
    have := Q.upto_len (Q.leastB (Q.thr n kk)) 64
    exact ⟨_, FnExactThresholdFamily_law n kk _ true (by omega) e1 e2⟩
  · rw [if_neg hv] at e1 e2
    exact ⟨_, FnExactThresholdFamily_law n kk [] false (by simp) e1 e2⟩
end Go.Proofs.Ytncdgimmalifjaa.Pure
