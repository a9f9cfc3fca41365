/- The program's DropMoves and the reference's agree at every word, number of nails and position. No condition. -/
import Derived.Test.YtbnhnmcbaacdiaaPFnExactDropMovesx2
import Derived.Test.YtbnhnmcbaacdiaaGN
namespace Go.Proofs.Ytbnhnmcbaacdiaa.PFnExactDropMoves
open Go.RowKit Go.Proofs.YtbnhnmcbaacdiaaW.PrintWords Go.Proofs.YtbnhnmcbaacdiaaW.PrintLast
set_option linter.unusedVariables false
set_option linter.unusedSimpArgs false
set_option linter.unusedSectionVars false
theorem w64 (i : Nat) (h : i < 9223372036854775807) : wrap64 ((i : Int) + 1) = ((i + 1 : Nat) : Int) := by
  unfold wrap64; omega
theorem rd_nat (l : List Int) (i : Nat) (h : i < l.length) : rd l (i : Int) = l[i] := by
  simp [rd, h]
/-- marks one after the other -/
def marks : Int → Nat → List Int
  | _, 0 => []
  | m, n + 1 => m :: marks (m + 1) n
theorem marks_len : ∀ (n : Nat) (m : Int), (marks m n).length = n
  | 0, _ => rfl
  | n + 1, m => by simp [marks, marks_len n]
theorem bindS {α β : Type} {o : Option α} {a : α} {f : α → Option β} {r : Option β} (h : o = some a) (h2 : f a = r) : o.bind f = r := by
  rw [h]; exact h2
theorem toIntS_l0 (l : List Int) (hl : l.length < 9223372036854775807) : ∀ (n k i : Nat), i + n = l.length → n < k → laws_toIntS.l0 k l (l.take i ++ List.replicate n 0) (i : Int) = some l
  | 0, k + 1, i, hi, _ => by
    have hi : i = l.length := by omega
    simp [laws_toIntS.l0, hi]
  | n + 1, k + 1, i, hi, hk => by
    have h : i < l.length := by omega
    have e : (l.take i ++ List.replicate (n + 1) (0 : Int)).set i l[i] = l.take (i + 1) ++ List.replicate n 0 := by
      have e2 : ∀ X : List Int, l.take (i + 1) ++ X = l.take i ++ (l[i] :: X) := fun X => by rw [← List.take_append_getElem h, List.append_assoc]; rfl
      rw [List.set_append_right _ _ (by simp; omega), e2, List.replicate_succ]
      simp [Nat.min_eq_left (Nat.le_of_lt h)]
    rw [laws_toIntS.l0, if_pos (by omega), if_pos (by omega), if_pos (by simp; omega), rd_nat _ _ h, w64 _ (by omega), Int.toNat_natCast, e]
    exact toIntS_l0 l hl n k (i + 1) (by omega) (by omega)
theorem toIntS_f (l : List Int) (k : Nat) (hl : l.length ≤ 35184372088832) (hk : l.length < k) : laws_toIntS.f k l = some l := by
  have := toIntS_l0 l (by omega) l.length k 0 (by omega) hk
  rw [laws_toIntS.f, if_pos (by omega), Int.toNat_natCast, if_pos hl]
  simpa using this
theorem eqIntS_l0 (l : List Int) (hl : l.length < 9223372036854775807) : ∀ (n k i : Nat), i + n = l.length → n < k → laws_eqIntS.l0 k l l (i : Int) = some true
  | 0, k + 1, i, hi, _ => by
    have hi : i = l.length := by omega
    simp [laws_eqIntS.l0, hi]
  | n + 1, k + 1, i, hi, hk => by
    rw [laws_eqIntS.l0, if_pos (by omega), if_pos (by omega), if_pos (by omega), if_pos rfl, w64 _ (by omega)]
    exact eqIntS_l0 l hl n k (i + 1) (by omega) (by omega)
theorem eqIntS_f (l : List Int) (k : Nat) (hl : l.length ≤ 35184372088832) (hk : l.length < k) : laws_eqIntS.f k l l = some true := by
  rw [laws_eqIntS.f, if_pos rfl]
  exact eqIntS_l0 l (by omega) l.length k 0 (by omega) hk
theorem markIntS_l0 : ∀ (n k i : Nat) (l : List Int) (m : Int), l.length < 9223372036854775807 → i + n = l.length → n < k → 0 ≤ m → m + n < 9223372036854775807 → laws_markIntS.l0 k l m (i : Int) = some (m + n, l.take i ++ marks m n)
  | 0, k + 1, i, l, m, hl, hi, _, h0, hm => by
    have hi : i = l.length := by omega
    simp [laws_markIntS.l0, hi, marks]
  | n + 1, k + 1, i, l, m, hl, hi, hk, h0, hm => by
    have h : i < l.length := by omega
    have em : wrap64 (m + 1) = m + 1 := by unfold wrap64; omega
    rw [laws_markIntS.l0, if_pos (by omega), if_pos (by omega), w64 _ (by omega), Int.toNat_natCast, em, markIntS_l0 n k (i + 1) (l.set i m) (m + 1) (by simpa using hl) (by simp; omega) (by omega) (by omega) (by omega)]
    rw [List.take_add_one, List.take_set_of_le (Nat.le_refl _)]
    simp [h, marks]
    omega
theorem markIntS_f (l : List Int) (m : Int) (k : Nat) (hl : l.length ≤ 35184372088832) (hk : l.length < k) (h0 : 0 ≤ m) (hm : m ≤ 9000000000000000000) : laws_markIntS.f k l m = some (m + l.length, marks m l.length) := by
  have := markIntS_l0 l.length k 0 l m (by omega) (by omega) hk h0 (by omega)
  simpa [laws_markIntS.f] using this
theorem heldIntS_l0 (L : List Int) (hl : L.length < 9223372036854775807) : ∀ (n k i : Nat) (m : Int), L.drop i = marks m n → i + n = L.length → n < k → 0 ≤ m → m + n < 9223372036854775807 → laws_heldIntS.l0 k L m (i : Int) = some (m + n)
  | 0, k + 1, i, m, hd, hi, _, h0, hm => by
    have hi : i = L.length := by omega
    simp [laws_heldIntS.l0, hi]
  | n + 1, k + 1, i, m, hd, hi, hk, h0, hm => by
    have h : i < L.length := by omega
    have em : wrap64 (m + 1) = m + 1 := by unfold wrap64; omega
    rw [List.drop_eq_getElem_cons h, marks, List.cons.injEq] at hd
    rw [laws_heldIntS.l0, if_pos (by omega), if_pos (by omega), rd_nat _ _ h, if_pos hd.1, w64 _ (by omega), em, heldIntS_l0 L hl n k (i + 1) (m + 1) hd.2 (by omega) (by omega) (by omega) (by omega)]
    congr 1; omega
theorem heldIntS_f (m : Int) (n k : Nat) (hl : n ≤ 35184372088832) (hk : n < k) (h0 : 0 ≤ m) (hm : m ≤ 9000000000000000000) : laws_heldIntS.f k (marks m n) m = some (m + n) := by
  have := heldIntS_l0 (marks m n) (by rw [marks_len]; omega) n k 0 m (by simp) (by rw [marks_len]; omega) hk h0 (by omega)
  simpa [laws_heldIntS.f] using this
end Go.Proofs.Ytbnhnmcbaacdiaa.PFnExactDropMoves
namespace Go.Proofs.Ytbnhnmcbaacdiaa.Pure
open Go.RowKit Go.Proofs.Ytbnhnmcbaacdiaa.PFnExactDropMoves Go.Proofs.YtbnhnmcbaacdiaaW.PrintWords Go.Proofs.YtbnhnmcbaacdiaaW.PrintLast
set_option linter.unusedVariables false
set_option linter.unusedSimpArgs false
theorem FnExactDropMoves_law (l : List Int) (a1 a2 : Int) (x : List Int) (b : Bool) (hl : l.length ≤ 1048576) (hx : x.length ≤ 100)
    (hs : spec_DropMoves.f l a1 a2 = some (x, b)) (hi : impl_DropMoves.f l a1 a2 = some (x, b)) : laws_FnExactDropMoves.f (l.length + 200) l a1 a2 = some true := by
  generalize hk : l.length + 190 = k
  have e : l.length + 200 = k + 10 := by omega
  rw [e]
  unfold laws_FnExactDropMoves.f
  repeat (first
    | exact rfl
    | refine bindS hs ?_
    | refine bindS hi ?_
    | refine bindS (toIntS_f _ _ (by omega) (by omega)) ?_
    | refine bindS (eqIntS_f _ _ (by omega) (by omega)) ?_
    | refine bindS (markIntS_f _ _ _ (by omega) (by omega) (by omega) (by omega)) ?_
    | refine bindS (heldIntS_f _ _ _ (by omega) (by omega) (by omega) (by omega)) ?_
    | refine (if_pos rfl).trans ?_
    | refine (if_neg Bool.false_ne_true).trans ?_
    | refine (if_neg (by omega)).trans ?_
    | refine (if_pos (by omega)).trans ?_
    | rw [laws_FnExactDropMoves.j0]
    | rw [laws_FnExactDropMoves.j1]
    | rw [laws_FnExactDropMoves.j2]
    | rw [bne_self_eq_false]
    | dsimp only)

/-- The program's DropMoves and the reference's agree at every word, number of nails and position. -/
theorem FnExactDropMoves : laws_FnExactDropMoves.Pure := by
  intro l a1 a2 _ _ _ _ _
  by_cases h : l.length ≤ 1048576
  · have h2 := Q.drops_is l a1 a2 (by omega) (2 * l.length + 1000) (by omega) _ rfl
    obtain ⟨⟨x, b⟩, hr⟩ : ∃ r, r = (if Q.gd l a1 a2 = true then ((Q.mv a1.toNat a2.toNat).filter (Q.dropP (Q.fallB l) a1.toNat 5 a2.toNat), true) else ([], false)) := ⟨_, rfl⟩
    rw [← hr] at h2
    have hx : x.length ≤ 100 := by
      have e : x = ((x, b) : List Int × Bool).1 := rfl
      rw [e, hr]
      by_cases hg : Q.gd l a1 a2 = true
      · obtain ⟨n, s, rfl, rfl, _, h6, _⟩ := Q.gd_nat l a1 a2 hg
        rw [if_pos hg]
        exact Nat.le_trans (List.length_filter_le _ _) (Nat.le_trans (Q.mv_len _ _) (by simp only [Int.toNat_natCast]; omega))
      · rw [if_neg hg]; simp
    exact ⟨_, FnExactDropMoves_law l a1 a2 x b h hx h2.2 h2.1⟩
  · exact ⟨0, by unfold laws_FnExactDropMoves.f; rw [if_pos (by omega)]⟩
end Go.Proofs.Ytbnhnmcbaacdiaa.Pure
