/- RankWord of the program returns what the reference's returns, for all arguments: both add up the numbers of shorter words, and of those with an earlier letter at each place, and refuse where the sum is more than 1000000000000. No condition. -/
import Derived.Test.YtnpgegfffklcpaaPFnExactRankWordx3
import Derived.Test.YtnpgegfffklcpaaRK
namespace Go.Proofs.Ytnpgegfffklcpaa.PFnExactRankWord
open Go.RowKit Go.Proofs.YtnpgegfffklcpaaW.PrintWords Go.Proofs.YtnpgegfffklcpaaW.PrintLast
set_option linter.unusedVariables false
set_option linter.unusedSimpArgs false
set_option linter.unusedSectionVars false
theorem w64 (i : Nat) (h : i < 9223372036854775807) : wrap64 ((i : Int) + 1) = ((i + 1 : Nat) : Int) := by
  unfold wrap64; omega
theorem rd_nat (l : List Int) (i : Nat) (h : i < l.length) : rd l (i : Int) = l[i] := by
  simp [rd, h]
/-- marks one after the other -/
def marks : Int → Nat → List Int
  | _, 0 => []
  | m, n + 1 => m :: marks (m + 1) n
theorem marks_len : ∀ (n : Nat) (m : Int), (marks m n).length = n
  | 0, _ => rfl
  | n + 1, m => by simp [marks, marks_len n]
theorem bindS {α β : Type} {o : Option α} {a : α} {f : α → Option β} {r : Option β} (h : o = some a) (h2 : f a = r) : o.bind f = r := by
  rw [h]; exact h2
theorem toIntS_l0 (l : List Int) (hl : l.length < 9223372036854775807) : ∀ (n k i : Nat), i + n = l.length → n < k → laws_toIntS.l0 k l (l.take i ++ List.replicate n 0) (i : Int) = some l
  | 0, k + 1, i, hi, _ => by
    have hi : i = l.length := by omega
    simp [laws_toIntS.l0, hi]
  | n + 1, k + 1, i, hi, hk => by
    have h : i < l.length := by omega
    have e : (l.take i ++ List.replicate (n + 1) (0 : Int)).set i l[i] = l.take (i + 1) ++ List.replicate n 0 := by
      have e2 : ∀ X : List Int, l.take (i + 1) ++ X = l.take i ++ (l[i] :: X) := fun X => by rw [← List.take_append_getElem h, List.append_assoc]; rfl
      rw [List.set_append_right _ _ (by simp; omega), e2, List.replicate_succ]
      simp [Nat.min_eq_left (Nat.le_of_lt h)]
    rw [laws_toIntS.l0, if_pos (by omega), if_pos (by omega), if_pos (by simp; omega), rd_nat _ _ h, w64 _ (by omega), Int.toNat_natCast, e]
    exact toIntS_l0 l hl n k (i + 1) (by omega) (by omega)
theorem toIntS_f (l : List Int) (k : Nat) (hl : l.length ≤ 35184372088832) (hk : l.length < k) : laws_toIntS.f k l = some l := by
  have := toIntS_l0 l (by omega) l.length k 0 (by omega) hk
  rw [laws_toIntS.f, if_pos (by omega), Int.toNat_natCast, if_pos hl]
  simpa using this
theorem eqIntS_l0 (l : List Int) (hl : l.length < 9223372036854775807) : ∀ (n k i : Nat), i + n = l.length → n < k → laws_eqIntS.l0 k l l (i : Int) = some true
  | 0, k + 1, i, hi, _ => by
    have hi : i = l.length := by omega
    simp [laws_eqIntS.l0, hi]
  | n + 1, k + 1, i, hi, hk => by
    rw [laws_eqIntS.l0, if_pos (by omega), if_pos (by omega), if_pos (by omega), if_pos rfl, w64 _ (by omega)]
    exact eqIntS_l0 l hl n k (i + 1) (by omega) (by omega)
theorem eqIntS_f (l : List Int) (k : Nat) (hl : l.length ≤ 35184372088832) (hk : l.length < k) : laws_eqIntS.f k l l = some true := by
  rw [laws_eqIntS.f, if_pos rfl]
  exact eqIntS_l0 l (by omega) l.length k 0 (by omega) hk
theorem l7Nails_f (n : Int) : spec_l7Nails.f n = some (decide (1 ≤ n ∧ n ≤ 6)) := by
  unfold spec_l7Nails.f spec_l1In.f
  by_cases h : n ≥ 1
  · rw [if_pos h, Option.bind_some]; congr 1; rw [Bool.eq_iff_iff]; simp; omega
  · rw [if_neg h, Option.bind_some]; congr 1; rw [Bool.eq_iff_iff]; simp; omega
theorem l2Letter_f (x : Int) : spec_l2Letter.f x = some (Q.letB x) := by
  unfold spec_l2Letter.f spec_l1In.f Q.letB
  by_cases h0 : x = 0
  · simp [h0]
  · rw [if_neg h0]
    by_cases h1 : x ≥ -6
    · rw [if_pos h1, Option.bind_some]; congr 1; rw [Bool.eq_iff_iff]; simp; omega
    · rw [if_neg h1, Option.bind_some]; congr 1; rw [Bool.eq_iff_iff]; simp; omega
theorem l2Word_l0 (w : List Int) (hw : w.length < 9223372036854775807) : ∀ (n k i : Nat), i + n = w.length → 2 * n + 1 < k → i ≤ 65 → spec_l2Word.l0 k w (i : Int) = some (decide (w.length ≤ 64) && (w.drop i).all Q.letB)
  | 0, k + 2, i, hi, _, _ => by
    have hi : i = w.length := by omega
    have e : decide ((w.length : Int) ≤ 64) = decide (w.length ≤ 64) := by rw [decide_eq_decide]; omega
    rw [spec_l2Word.l0, if_neg (by omega), spec_l2Word.j1, if_neg (by simp), hi, e]
    simp
  | n + 1, k + 2, i, hi, hk, h65 => by
    have h : i < w.length := by omega
    have hd : w.drop i = w[i] :: w.drop (i + 1) := List.drop_eq_getElem_cons h
    rw [spec_l2Word.l0, if_pos (by omega), spec_l2Word.j1]
    by_cases h64 : i ≤ 64
    · rw [if_pos (decide_eq_true (by omega)), if_pos (by omega), if_pos (by omega), rd_nat _ _ h, l2Letter_f, Option.bind_some, w64 _ (by omega), hd]
      simp only [List.all_cons]
      by_cases hl : Q.letB w[i] = true
      · rw [if_pos hl, l2Word_l0 w hw n k (i + 1) (by omega) (by omega) (by omega)]; simp [hl]
      · rw [if_neg hl]; simp [hl]
    · rw [if_neg (by simp; omega)]
      have h1 : ¬ w.length ≤ 64 := by omega
      have h2 : ¬ (w.length : Int) ≤ 64 := by omega
      rw [decide_eq_false h1, decide_eq_false h2]; rfl
theorem l2Word_f (w : List Int) (k : Nat) (hw : w.length < 9223372036854775807) (hk : 2 * w.length + 1 < k) : spec_l2Word.f k w = some (Q.okW w) := by
  have : spec_l2Word.f k w = _ := l2Word_l0 w hw w.length k 0 (by omega) hk (by omega)
  rw [this, List.drop_zero]; rfl
theorem w64m (i : Nat) (h0 : 0 < i) (h : i < 9223372036854775807) : wrap64 ((i : Int) - 1) = ((i - 1 : Nat) : Int) := by unfold wrap64; omega
theorem l2Reduced_l0 (w : List Int) (hw : w.length < 1000000) (hl : ∀ x ∈ w, Q.letB x = true) : ∀ (n k i : Nat), i + n = w.length → 0 < i → n < k → spec_l2Reduced.l0 k w (i : Int) = some (Q.apartB (w.drop (i - 1)))
  | 0, k + 1, i, hi, h0, _ => by
    have hi' : i = w.length := by omega
    have hd : w.drop (i - 1) = [w[i - 1]] := by rw [List.drop_eq_getElem_cons (by omega), List.drop_eq_nil_of_le (by omega)]
    rw [spec_l2Reduced.l0, if_neg (by omega), hd]; rfl
  | n + 1, k + 1, i, hi, h0, hk => by
    have h : i < w.length := by omega
    have hd : w.drop (i - 1) = w[i - 1] :: w[i] :: w.drop (i + 1) := by
      rw [List.drop_eq_getElem_cons (by omega)]
      have : i - 1 + 1 = i := by omega
      rw [this, List.drop_eq_getElem_cons h]
    have hd2 : w.drop (i + 1 - 1) = w[i] :: w.drop (i + 1) := by rw [Nat.add_sub_cancel, List.drop_eq_getElem_cons h]
    rw [spec_l2Reduced.l0, if_pos (by omega), if_pos (by omega), w64m i h0 (by omega), if_pos (by omega), if_pos (by omega), rd_nat _ _ h, rd_nat _ _ (by omega), Q.wneg _ (hl _ (List.getElem_mem _)), w64 _ (by omega),
      l2Reduced_l0 w hw hl n k (i + 1) (by omega) (by omega) (by omega), hd2, hd]
    by_cases e : w[i] = -w[i - 1]
    · rw [if_pos e]; simp [Q.apartB, e]
    · rw [if_neg e]; simp [Q.apartB, e]
theorem l2Reduced_f (w : List Int) (hw : w.length < 1000000) (hl : ∀ x ∈ w, Q.letB x = true) (k : Nat) (hk : w.length < k) : spec_l2Reduced.f k w = some (Q.apartB w) := by
  cases w with
  | nil =>
    obtain ⟨k, rfl⟩ : ∃ j, k = j + 1 := ⟨k - 1, by simp at hk; omega⟩
    rfl
  | cons a t =>
    have := l2Reduced_l0 (a :: t) hw hl t.length k 1 (by simp; omega) (by omega) (by simp at hk; omega)
    exact this
theorem nailOr : ∀ s : Fin 64, ∀ i : Fin 13, ∀ n : Fin 6, Q.letB ((i.val : Int) - 6) = true →
    ∃ t : Fin 64, ((spec_l2Nail.f ((i.val : Int) - 6)).bind fun m => if 0 ≤ wrap64 (m - 1) then some (Go.bits .or .i64 ((s.val : Nat) : Int) (shl .i64 1 (wrap64 (m - 1)))) else none) = some ((t.val : Nat) : Int) ∧
      (shr .i64 ((t.val : Nat) : Int) ((n.val : Int) + 1) == 0) = ((shr .i64 ((s.val : Nat) : Int) ((n.val : Int) + 1) == 0) && decide (((((i.val : Int) - 6).natAbs : Nat) : Int) ≤ (n.val : Int) + 1)) := by
  intro s i n h
  revert h
  have key : ∀ s : Fin 64, ∀ i : Fin 13, ∀ n : Fin 6, Q.letB ((i.val : Int) - 6) = true →
    (match ((spec_l2Nail.f ((i.val : Int) - 6)).bind fun m => if 0 ≤ wrap64 (m - 1) then some (Go.bits .or .i64 ((s.val : Nat) : Int) (shl .i64 1 (wrap64 (m - 1)))) else none) with
      | none => false
      | some t => decide (0 ≤ t) && decide (t < 64) && ((shr .i64 t ((n.val : Int) + 1) == 0) == ((shr .i64 ((s.val : Nat) : Int) ((n.val : Int) + 1) == 0) && decide (((((i.val : Int) - 6).natAbs : Nat) : Int) ≤ (n.val : Int) + 1)))) = true := by decide +kernel
  intro h
  have hk := key s i n h
  revert hk
  cases hq : ((spec_l2Nail.f ((i.val : Int) - 6)).bind fun m => if 0 ≤ wrap64 (m - 1) then some (Go.bits .or .i64 ((s.val : Nat) : Int) (shl .i64 1 (wrap64 (m - 1)))) else none) with
  | none => intro hk; cases hk
  | some t =>
    intro hk
    simp only [Bool.and_eq_true, decide_eq_true_eq, beq_iff_eq] at hk
    obtain ⟨⟨h1, h2⟩, h3⟩ := hk
    refine ⟨⟨t.toNat, by omega⟩, ?_, ?_⟩
    · simp only; rw [Int.toNat_of_nonneg h1]
    · simp only; rw [Int.toNat_of_nonneg h1]; exact h3
theorem l2Nails_l0 (w : List Int) (hw : w.length < 1000000) (hl : ∀ x ∈ w, Q.letB x = true) (n : Fin 6) : ∀ (d k i : Nat) (s : Fin 64), i + d = w.length → d < k →
    ∃ t : Fin 64, spec_l2Nails.l0 k w ((s.val : Nat) : Int) (i : Int) = some ((t.val : Nat) : Int) ∧ (shr .i64 ((t.val : Nat) : Int) ((n.val : Int) + 1) == 0) = ((shr .i64 ((s.val : Nat) : Int) ((n.val : Int) + 1) == 0) && (w.drop i).all fun x => decide ((x.natAbs : Int) ≤ (n.val : Int) + 1))
  | 0, k + 1, i, s, hi, _ => by
    have hi' : i = w.length := by omega
    exact ⟨s, by rw [spec_l2Nails.l0, if_neg (by omega)], by simp [hi']⟩
  | d + 1, k + 1, i, s, hi, hk => by
    have h : i < w.length := by omega
    have hd : w.drop i = w[i] :: w.drop (i + 1) := List.drop_eq_getElem_cons h
    have hx := hl _ (List.getElem_mem h)
    have h13 := (Q.letB_iff _).1 hx
    have e13 : (((w[i] + 6).toNat : Nat) : Int) - 6 = w[i] := by omega
    obtain ⟨t, h1, h2⟩ := nailOr s ⟨(w[i] + 6).toNat, by omega⟩ n (by simp only [e13]; exact hx)
    simp only [e13] at h1 h2
    obtain ⟨m, hm, h1⟩ := Option.bind_eq_some_iff.1 h1
    obtain ⟨u, h3, h4⟩ := l2Nails_l0 w hw hl n d k (i + 1) t (by omega) (by omega)
    by_cases h0 : 0 ≤ wrap64 (m - 1)
    · rw [if_pos h0] at h1
      refine ⟨u, ?_, ?_⟩
      · rw [spec_l2Nails.l0, if_pos (by omega), if_pos (by omega), rd_nat _ _ h, hm, Option.bind_some, if_pos h0, Option.some.inj h1, w64 _ (by omega), h3]
      · rw [h4, h2, hd, List.all_cons, Bool.and_assoc]
    · rw [if_neg h0] at h1; cases h1
theorem l7Word_f (w : List Int) (n : Int) (hw : w.length < 9223372036854775807) (k : Nat) (hk : 2 * w.length + 100 < k) : spec_l7Word.f k w n = some (Q.overB w n) := by
  rw [spec_l7Word.f, l7Nails_f, Option.bind_some, Q.overB]
  by_cases hn : 1 ≤ n ∧ n ≤ 6
  · rw [if_pos (decide_eq_true hn), l2Word_f w k hw (by omega), Option.bind_some, decide_eq_true hn, Bool.true_and]
    by_cases ho : Q.okW w = true
    · obtain ⟨h1, h2⟩ := (Q.okW_iff w).1 ho
      rw [if_pos ho, l2Reduced_f w (by omega) h2 k (by omega), Option.bind_some, ho, Bool.true_and]
      by_cases ha : Q.apartB w = true
      · obtain ⟨t, h3, h4⟩ := l2Nails_l0 w (by omega) h2 ⟨(n - 1).toNat, by omega⟩ w.length k 0 0 (by omega) (by omega)
        have en : (((n - 1).toNat : Nat) : Int) + 1 = n := by omega
        simp only [en] at h4
        have h3' : spec_l2Nails.f k w = some ((t.val : Nat) : Int) := h3
        rw [if_pos ha, h3', Option.bind_some, if_pos (by omega), h4, ha, Bool.true_and, List.drop_zero]
        have e0 : ∀ m : Fin 6, (shr .i64 (((0 : Fin 64).val : Nat) : Int) ((m.val : Int) + 1) == 0) = true := by decide +kernel
        have := e0 ⟨(n - 1).toNat, by omega⟩
        simp only [en] at this
        rw [this, Bool.true_and]
      · rw [if_neg ha]
        have : Q.apartB w = false := by simpa using ha
        rw [this, Bool.false_and]
    · rw [if_neg ho]
      have : Q.okW w = false := by simpa using ho
      rw [this, Bool.false_and]
  · rw [if_neg (by simpa using hn), decide_eq_false hn, Bool.false_and]
/-! counts, as the program caps them and the reference refuses them -/
def MX : Int := 1000000000000
def cap (x : Int) : Int := if x ≤ 1000000000000 then x else 1000000000001
def dB (x : Int) : Int := if x ≤ 1000000000000 then x else -1
def cnt (n : Int) : Nat → Int
  | 0 => 1
  | L + 1 => 2 * n * (2 * n - 1) ^ L
theorem pow_one_le (b : Int) (hb : 1 ≤ b) : ∀ d : Nat, 1 ≤ b ^ d
  | 0 => by simp
  | d + 1 => by
    have := pow_one_le b hb d
    rw [Int.pow_succ]
    have h := Int.mul_le_mul this hb (by omega) (by omega)
    simpa using h
theorem cap_mul (c b : Int) (hc : 0 ≤ c) (hb : 1 ≤ b) : cap (cap c * b) = cap (c * b) := by
  unfold cap
  by_cases h : c ≤ 1000000000000
  · rw [if_pos h]
  · rw [if_neg h]
    have h1 : (1000000000001 : Int) ≤ 1000000000001 * b := by omega
    have h2 : c ≤ c * b := by
      have := Int.mul_le_mul_of_nonneg_left hb hc
      rwa [Int.mul_one] at this
    rw [if_neg (by omega), if_neg (by omega)]
theorem times_f (a c : Int) (ha : 0 ≤ a) (hc : 1 ≤ c) (hc2 : c ≤ 1000000000000) : impl_times.f a c = some (cap (a * c)) := by
  have e : Int.tdiv (1000000000000 : Int) c = 1000000000000 / c := Int.tdiv_eq_ediv_of_nonneg (by omega)
  have h0 : 0 ≤ (1000000000000 : Int) / c := Int.ediv_nonneg (by omega) (by omega)
  have h1 : (1000000000000 : Int) / c ≤ 1000000000000 := Int.ediv_le_self _ (by omega)
  have e2 : wrap64 (1000000000000 / c) = 1000000000000 / c := by unfold wrap64; omega
  have hiff : a ≤ 1000000000000 / c ↔ a * c ≤ 1000000000000 := Int.le_ediv_iff_mul_le (by omega)
  rw [impl_times.f, if_neg (by omega), e, e2]
  unfold cap
  by_cases h : a * c ≤ 1000000000000
  · have h2 := hiff.2 h
    have h3 : 0 ≤ a * c := Int.mul_nonneg ha (by omega)
    have e3 : wrap64 (a * c) = a * c := by unfold wrap64; omega
    rw [if_neg (by omega), if_pos h, e3]
  · have h2 : ¬ a ≤ 1000000000000 / c := fun h2 => h (hiff.1 h2)
    rw [if_pos (by omega), if_neg h]
theorem cap_nonneg (x : Int) (h : 0 ≤ x) : 0 ≤ cap x := by unfold cap; split <;> omega
theorem cnt_succ (n : Int) (L : Nat) : cnt n (L + 2) = cnt n (L + 1) * (2 * n - 1) := by
  show 2 * n * (2 * n - 1) ^ (L + 1) = 2 * n * (2 * n - 1) ^ L * (2 * n - 1)
  rw [Int.pow_succ, ← Int.mul_assoc]
theorem cnt_pos (n : Int) (hn : 1 ≤ n) : ∀ L, 1 ≤ cnt n L
  | 0 => by simp [cnt]
  | L + 1 => by
    have := pow_one_le (2 * n - 1) (by omega) L
    have h := Int.mul_le_mul (show (1 : Int) ≤ 2 * n by omega) this (by omega) (by omega)
    simpa [cnt] using h
theorem wb (n : Int) (h1 : 1 ≤ n) (h6 : n ≤ 6) : wrap64 ((wrap64 (2 * n)) - 1) = 2 * n - 1 ∧ wrap64 (2 * n) = 2 * n := by
  constructor <;> (unfold wrap64; omega)
theorem countReduced_l0 (n : Int) (h1 : 1 ≤ n) (h6 : n ≤ 6) (L : Nat) (hL : L < 1000) : ∀ (d k i : Nat), i + d = L → d < k → impl_countReduced.l0 k n (cap (cnt n i)) (L : Int) (i : Int) = some (cap (cnt n L))
  | 0, k + 1, i, hi, _ => by
    have hi : i = L := by omega
    rw [impl_countReduced.l0, if_neg (by omega), hi]
  | d + 1, k + 1, i, hi, hk => by
    obtain ⟨e1, e2⟩ := wb n h1 h6
    have ih := countReduced_l0 n h1 h6 L hL d k (i + 1) (by omega) (by omega)
    rw [impl_countReduced.l0, if_pos (by omega), e1, e2, w64 _ (by omega)]
    cases i with
    | zero =>
      rw [if_pos (by simp)]
      have e : cap (cnt n (0 + 1)) = 2 * n := by
        have : cnt n (0 + 1) = 2 * n := by simp [cnt]
        rw [this]; unfold cap; rw [if_pos (by omega)]
      rw [e] at ih; exact ih
    | succ j =>
      have hp := cnt_pos n h1 (j + 1)
      rw [if_neg (by omega), times_f _ _ (cap_nonneg _ (by omega)) (by omega) (by omega), Option.bind_some, cap_mul _ _ (by omega) (by omega), ← cnt_succ]
      exact ih
theorem countReduced_f (n : Int) (h1 : 1 ≤ n) (h6 : n ≤ 6) (L k : Nat) (hL : L < 1000) (hk : L < k) : impl_countReduced.f k n (L : Int) = some (cap (cnt n L)) := by
  have := countReduced_l0 n h1 h6 L hL L k 0 (by omega) hk
  have e : cap (cnt n 0) = 1 := rfl
  rw [e] at this
  exact this
theorem tails_l0 (n : Int) (h1 : 1 ≤ n) (h6 : n ≤ 6) (L : Nat) (hL : L < 1000) : ∀ (d k i : Nat), i + d = L → d < k → impl_tails.l0 k n (cap ((2 * n - 1) ^ i)) (L : Int) (i : Int) = some (cap ((2 * n - 1) ^ L))
  | 0, k + 1, i, hi, _ => by
    have hi : i = L := by omega
    rw [impl_tails.l0, if_neg (by omega), hi]
  | d + 1, k + 1, i, hi, hk => by
    obtain ⟨e1, e2⟩ := wb n h1 h6
    have ih := tails_l0 n h1 h6 L hL d k (i + 1) (by omega) (by omega)
    have hp := pow_one_le (2 * n - 1) (by omega) i
    rw [impl_tails.l0, if_pos (by omega), e1, w64 _ (by omega), times_f _ _ (cap_nonneg _ (by omega)) (by omega) (by omega), Option.bind_some, cap_mul _ _ (by omega) (by omega), ← Int.pow_succ]
    exact ih
theorem tails_f (n : Int) (h1 : 1 ≤ n) (h6 : n ≤ 6) (L k : Nat) (hL : L < 1000) (hk : L < k) : impl_tails.f k n (L : Int) = some (cap ((2 * n - 1) ^ L)) := by
  have := tails_l0 n h1 h6 L hL L k 0 (by omega) hk
  have e : cap ((2 * n - 1) ^ 0) = 1 := by rw [Int.pow_zero]; rfl
  rw [e] at this
  exact this
theorem mul_big (m b : Int) (hm : 1000000000000 < m) (hb : 1 ≤ b) (d : Nat) : 1000000000000 < m * b ^ d := by
  have h := Int.mul_le_mul_of_nonneg_left (pow_one_le b hb d) (show 0 ≤ m by omega)
  rw [Int.mul_one] at h; omega
theorem mul_ge (m b : Int) (hm : 1 ≤ m) (hb : 1 ≤ b) : 1 ≤ m * b := by
  have h := Int.mul_le_mul hm hb (by omega) (by omega)
  simpa using h
theorem l7Reduced_l0 (n : Int) (h1 : 1 ≤ n) (h6 : n ≤ 6) (L : Nat) (hL : L < 1000) : ∀ (d k i : Nat) (m : Int), i + d = L → d < k → 1 ≤ m → m ≤ 1000000000000 → spec_l7Reduced.l0 k n (L : Int) m (i : Int) = some (dB (m * (2 * n - 1) ^ d))
  | 0, k + 1, i, m, hi, _, _, hm => by
    rw [spec_l7Reduced.l0, if_neg (by omega)]
    simp [dB, hm]
  | d + 1, k + 1, i, m, hi, hk, h0, hm => by
    obtain ⟨e1, e2⟩ := wb n h1 h6
    have hge := mul_ge m (2 * n - 1) h0 (by omega)
    have hub : m * (2 * n - 1) ≤ 1000000000000 * 11 := Int.mul_le_mul hm (by omega) (by omega) (by omega)
    have e3 : wrap64 (m * (2 * n - 1)) = m * (2 * n - 1) := by unfold wrap64; omega
    have e4 : m * (2 * n - 1) ^ (d + 1) = m * (2 * n - 1) * (2 * n - 1) ^ d := by rw [Int.pow_succ, Int.mul_comm ((2 * n - 1) ^ d), Int.mul_assoc]
    rw [spec_l7Reduced.l0, if_pos (by omega), e1, e3, w64 _ (by omega), e4]
    by_cases h : m * (2 * n - 1) > 1000000000000
    · have := mul_big _ (2 * n - 1) h (by omega) d
      rw [if_pos h]; unfold dB; rw [if_neg (by omega)]
    · rw [if_neg h, l7Reduced_l0 n h1 h6 L hL d k (i + 1) _ (by omega) (by omega) hge (by omega)]
theorem l7Reduced_f (n : Int) (h1 : 1 ≤ n) (h6 : n ≤ 6) (L k : Nat) (hL : L < 1000) (hk : L < k) : spec_l7Reduced.f k n (L : Int) = some (dB (cnt n L)) := by
  obtain ⟨e1, e2⟩ := wb n h1 h6
  rw [spec_l7Reduced.f]
  cases L with
  | zero => rw [if_pos (by simp)]; rfl
  | succ L =>
    rw [if_neg (by omega), e2]
    exact l7Reduced_l0 n h1 h6 (L + 1) hL L k 1 (2 * n) (by omega) (by omega) (by omega) (by omega)
theorem l7Behind_l0 (n : Int) (h1 : 1 ≤ n) (h6 : n ≤ 6) (L : Nat) (hL : L < 1000) : ∀ (d k i : Nat) (m : Int), i + d = L → d < k → 1 ≤ m → m ≤ 1000000000000 → spec_l7Behind.l0 k n (L : Int) m (i : Int) = some (dB (m * (2 * n - 1) ^ d))
  | 0, k + 1, i, m, hi, _, _, hm => by
    rw [spec_l7Behind.l0, if_neg (by omega)]
    simp [dB, hm]
  | d + 1, k + 1, i, m, hi, hk, h0, hm => by
    obtain ⟨e1, e2⟩ := wb n h1 h6
    have hge := mul_ge m (2 * n - 1) h0 (by omega)
    have hub : m * (2 * n - 1) ≤ 1000000000000 * 11 := Int.mul_le_mul hm (by omega) (by omega) (by omega)
    have e3 : wrap64 (m * (2 * n - 1)) = m * (2 * n - 1) := by unfold wrap64; omega
    have e4 : m * (2 * n - 1) ^ (d + 1) = m * (2 * n - 1) * (2 * n - 1) ^ d := by rw [Int.pow_succ, Int.mul_comm ((2 * n - 1) ^ d), Int.mul_assoc]
    rw [spec_l7Behind.l0, if_pos (by omega), e1, e3, w64 _ (by omega), e4]
    by_cases h : m * (2 * n - 1) > 1000000000000
    · have := mul_big _ (2 * n - 1) h (by omega) d
      rw [if_pos h]; unfold dB; rw [if_neg (by omega)]
    · rw [if_neg h, l7Behind_l0 n h1 h6 L hL d k (i + 1) _ (by omega) (by omega) hge (by omega)]
theorem l7Behind_f (n : Int) (h1 : 1 ≤ n) (h6 : n ≤ 6) (L k : Nat) (hL : L < 1000) (hk : L < k) : spec_l7Behind.f k n (L : Int) = some (dB ((2 * n - 1) ^ L)) := by
  have := l7Behind_l0 n h1 h6 L hL L k 0 1 (by omega) hk (by omega) (by omega)
  rw [Int.one_mul] at this
  exact this
/-! letters in their order -/
def codeN (x : Int) : Nat := if x > 0 then (2 * x - 2).toNat else (-2 * x - 1).toNat
def lett (k : Nat) : Int := if k % 2 = 0 then ((k / 2 : Nat) : Int) + 1 else -(((k / 2 : Nat) : Int) + 1)
/-- how many letters from place a on, d of them, are none of p's opposite -/
def free (p : Int) : Nat → Nat → Nat
  | _, 0 => 0
  | a, d + 1 => (if lett a = -p then 0 else 1) + free p (a + 1) d
theorem le_mono {α : Type} {f : Nat → Option α} (h : ∀ k, LeO (f k) (f (k + 1))) {r : α} {a : Nat} (ha : f a = some r) : ∀ d, f (a + d) = some r
  | 0 => ha
  | d + 1 => h (a + d) r (le_mono h ha d)
theorem place_all : ∀ n : Fin 6, ∀ p : Fin 13, ∀ x : Fin 13, Q.letB ((x.val : Int) - 6) = true → ((((x.val : Int) - 6).natAbs : Nat) : Int) ≤ (n.val : Int) + 1 → ((((p.val : Int) - 6).natAbs : Nat) : Int) ≤ (n.val : Int) + 1 → (x.val : Int) - 6 ≠ -((p.val : Int) - 6) →
    ((impl_choices.f ((n.val : Int) + 1) ((p.val : Int) - 6)).bind fun t => slices_Index_int_int.f 20 t ((x.val : Int) - 6)) = some ((free ((p.val : Int) - 6) 0 (codeN ((x.val : Int) - 6)) : Nat) : Int) := by decide +kernel
theorem place_f (n p x : Int) (h1 : 1 ≤ n) (h6 : n ≤ 6) (hx : Q.letB x = true) (hxn : (x.natAbs : Int) ≤ n) (hpn : (p.natAbs : Int) ≤ n) (hne : x ≠ -p) : ∃ t, impl_choices.f n p = some t ∧ ∀ k, 20 ≤ k → slices_Index_int_int.f k t x = some ((free p 0 (codeN x) : Nat) : Int) := by
  have hl := (Q.letB_iff x).1 hx
  have en : (((n - 1).toNat : Nat) : Int) + 1 = n := by omega
  have ep : (((p + 6).toNat : Nat) : Int) - 6 = p := by omega
  have ex : (((x + 6).toNat : Nat) : Int) - 6 = x := by omega
  have h := place_all ⟨(n - 1).toNat, by omega⟩ ⟨(p + 6).toNat, by omega⟩ ⟨(x + 6).toNat, by omega⟩
  simp only [en, ep, ex] at h
  have h := h hx hxn hpn hne
  obtain ⟨t, ht, h2⟩ := Option.bind_eq_some_iff.1 h
  refine ⟨t, ht, fun k hk => ?_⟩
  have := le_mono (fun k => slices_Index_int_int.mono t x k) h2 (k - 20)
  have e : 20 + (k - 20) = k := by omega
  rwa [e] at this
theorem code_f (x : Int) (hx : Q.letB x = true) : spec_l2Code.f x = some ((codeN x : Nat) : Int) := by
  have hl := (Q.letB_iff x).1 hx
  unfold spec_l2Code.f codeN
  by_cases h : x > 0
  · rw [if_pos h, if_pos h]; congr 1; unfold wrap64; omega
  · rw [if_neg h, if_neg h]; congr 1; unfold wrap64; omega
theorem letter_all : ∀ k : Fin 12, spec_l7Letter.f ((k.val : Nat) : Int) = some (lett k.val) := by decide +kernel
theorem code_lt (x : Int) (hx : Q.letB x = true) : codeN x < 12 := by
  have hl := (Q.letB_iff x).1 hx
  unfold codeN; split <;> omega

/-! the lengths before, and the letters -/
def ph1 (n : Int) : Nat → Nat → Int → Option Int
  | 0, _, s => some s
  | d + 1, i, s => if s + cnt n i ≤ 1000000000000 then ph1 n d (i + 1) (s + cnt n i) else none
def prev (w : List Int) (i : Nat) : Int := if i = 0 then 0 else w.getD (i - 1) 0
def ph2 (w : List Int) (n : Int) : Nat → Nat → Int → Option Int
  | 0, _, s => some s
  | d + 1, i, s => if free (prev w i) 0 (codeN (w.getD i 0)) = 0 then ph2 w n d (i + 1) s
    else if s + (free (prev w i) 0 (codeN (w.getD i 0)) : Nat) * (2 * n - 1) ^ d ≤ 1000000000000 then ph2 w n d (i + 1) (s + (free (prev w i) 0 (codeN (w.getD i 0)) : Nat) * (2 * n - 1) ^ d) else none
theorem ph1_ge (n : Int) (hn : 1 ≤ n) : ∀ (d i : Nat) (s r : Int), 0 ≤ s → s ≤ 1000000000000 → ph1 n d i s = some r → 0 ≤ r ∧ r ≤ 1000000000000
  | 0, _, s, r, h0, h1, h => by cases h; exact ⟨h0, h1⟩
  | d + 1, i, s, r, h0, h1, h => by
    have := cnt_pos n hn i
    rw [ph1] at h
    by_cases hc : s + cnt n i ≤ 1000000000000
    · rw [if_pos hc] at h; exact ph1_ge n hn d (i + 1) _ r (by omega) hc h
    · rw [if_neg hc] at h; cases h
theorem ph2_ge (w : List Int) (n : Int) (hn : 1 ≤ n) : ∀ (d i : Nat) (s r : Int), 0 ≤ s → ph2 w n d i s = some r → 0 ≤ r
  | 0, _, s, r, h0, h => by cases h; exact h0
  | d + 1, i, s, r, h0, h => by
    have hp := pow_one_le (2 * n - 1) (by omega) d
    rw [ph2] at h
    by_cases hz : free (prev w i) 0 (codeN (w.getD i 0)) = 0
    · rw [if_pos hz] at h; exact ph2_ge w n hn d (i + 1) s r h0 h
    · rw [if_neg hz] at h
      have h2 : 0 ≤ ((free (prev w i) 0 (codeN (w.getD i 0)) : Nat) : Int) * (2 * n - 1) ^ d := Int.mul_nonneg (by omega) (by omega)
      split at h
      · exact ph2_ge w n hn d (i + 1) _ r (by omega) h
      · cases h

section
variable (w : List Int) (n : Int) (h1 : 1 ≤ n) (h6 : n ≤ 6) (hw : w.length ≤ 64) (hl : ∀ x ∈ w, Q.letB x = true) (hn : ∀ x ∈ w, (x.natAbs : Int) ≤ n) (ha : ∀ i, 0 < i → i < w.length → w.getD i 0 ≠ -(w.getD (i - 1) 0))
include h1 h6 hw

theorem spec_ph1 : ∀ (d k i : Nat) (s : Int), i + d = w.length → d + 100 < k → 0 ≤ s → s ≤ 1000000000000 →
    spec_l7Rank.l0 k w n s (i : Int) = match ph1 n d i s with | none => some (-1) | some s' => spec_l7Rank.l1 (k - d - 1) w n s' 0
  | 0, k + 1, i, s, hi, _, _, _ => by
    rw [spec_l7Rank.l0, if_neg (by omega)]; rfl
  | d + 1, k + 1, i, s, hi, hk, h0, hs => by
    have hp := cnt_pos n h1 i
    rw [spec_l7Rank.l0, if_pos (by omega), l7Reduced_f n h1 h6 i k (by omega) (by omega), Option.bind_some, ph1]
    by_cases hc : cnt n i ≤ 1000000000000
    · have ed : dB (cnt n i) = cnt n i := if_pos hc
      have ew : wrap64 (s + cnt n i) = s + cnt n i := by unfold wrap64; omega
      have ek : k + 1 - (d + 1) - 1 = k - d - 1 := by omega
      rw [ed, if_neg (by omega), ew, w64 _ (by omega), ek]
      by_cases hq : s + cnt n i ≤ 1000000000000
      · rw [if_neg (by omega), if_pos hq]; exact spec_ph1 d k (i + 1) _ (by omega) (by omega) (by omega) hq
      · rw [if_pos (by omega), if_neg hq]
    · have ed : dB (cnt n i) = -1 := if_neg hc
      rw [ed, if_pos (by omega), if_neg (by omega)]
theorem impl_ph1 : ∀ (d k i : Nat) (s : Int), i + d = w.length → d + 100 < k → 0 ≤ s → s ≤ 1000000000000 →
    impl_RankWord.l0 k w n s 0 (w.length : Int) (i : Int) = match ph1 n d i s with | none => some (0, false) | some s' => impl_RankWord.l1 (k - d - 1) w n s' 0 w (w.length : Int) 0
  | 0, k + 1, i, s, hi, _, _, _ => by
    rw [impl_RankWord.l0, if_neg (by omega)]; rfl
  | d + 1, k + 1, i, s, hi, hk, h0, hs => by
    have hp := cnt_pos n h1 i
    have ek : k + 1 - (d + 1) - 1 = k - d - 1 := by omega
    rw [impl_RankWord.l0, if_pos (by omega), countReduced_f n h1 h6 i k (by omega) (by omega), Option.bind_some, ph1, w64 _ (by omega), ek]
    by_cases hc : cnt n i ≤ 1000000000000
    · have ed : cap (cnt n i) = cnt n i := if_pos hc
      have ew : wrap64 (s + cnt n i) = s + cnt n i := by unfold wrap64; omega
      rw [ed, ew]
      by_cases hq : s + cnt n i ≤ 1000000000000
      · rw [if_neg (by omega), if_pos hq]; exact impl_ph1 d k (i + 1) _ (by omega) (by omega) (by omega) hq
      · rw [if_pos (by omega), if_neg hq]
    · have ed : cap (cnt n i) = 1000000000001 := if_neg hc
      have ew : wrap64 (s + 1000000000001) = s + 1000000000001 := by unfold wrap64; omega
      rw [ed, ew, if_pos (by omega), if_neg (by omega)]
include hl
theorem spec_l2 (i : Nat) (hi : i < w.length) (B : Int) (hB : 1 ≤ B) : ∀ (d k a : Nat) (s : Int), a + d = codeN w[i] → 2 * d + 1 < k → 0 ≤ s → s ≤ 1000000000000 →
    spec_l7Rank.l2 k w n s (i : Int) (dB B) (a : Int) = if free (prev w i) a d = 0 then spec_l7Rank.l1 (k - 2 * d - 1) w n s ((i + 1 : Nat) : Int)
      else if s + (free (prev w i) a d : Nat) * B ≤ 1000000000000 then spec_l7Rank.l1 (k - 2 * d - 1) w n (s + (free (prev w i) a d : Nat) * B) ((i + 1 : Nat) : Int) else some (-1)
  | 0, k + 1, a, s, ha, hk, h0, hs => by
    rw [spec_l7Rank.l2, if_pos (by omega), if_pos (by omega), rd_nat _ _ hi, code_f _ (hl _ (List.getElem_mem hi)), Option.bind_some, if_neg (by omega), w64 _ (by omega)]
    rfl
  | d + 1, k + 2, a, s, ha, hk, h0, hs => by
    have hcl := code_lt _ (hl _ (List.getElem_mem hi))
    have hlt := letter_all ⟨a, by omega⟩
    simp only at hlt
    have ek : k + 2 - 2 * (d + 1) - 1 = k - 2 * d - 1 := by omega
    have hj : (if (i : Int) > 0 then ((spec_l7Letter.f (a : Int)).bind fun t125 => (if 0 ≤ (wrap64 ((i : Int) - 1)) then (if (wrap64 ((i : Int) - 1)) < (w.length : Int) then (spec_l7Rank.j3 (k + 1) w n s (i : Int) (dB B) (a : Int) (t125 == (wrap64 (-(rd w (wrap64 ((i : Int) - 1))))))) else (none)) else (none))) else (spec_l7Rank.j3 (k + 1) w n s (i : Int) (dB B) (a : Int) false))
        = spec_l7Rank.j3 (k + 1) w n s (i : Int) (dB B) (a : Int) (decide (lett a = -(prev w i))) := by
      by_cases hz : i = 0
      · subst hz
        have : ¬ lett a = -(prev w 0) := by
          unfold lett prev
          split <;> simp <;> omega
        rw [if_neg (by omega), decide_eq_false this]
      · have hp : prev w i = w[i - 1] := by
          have hi2 : i - 1 < w.length := by omega
          simp [prev, hz, hi2]
        rw [if_pos (by omega), hlt, Option.bind_some, w64m i (by omega) (by omega), if_pos (by omega), if_pos (by omega), rd_nat _ _ (by omega), Q.wneg _ (hl _ (List.getElem_mem _)), hp]
        congr 1
    rw [spec_l7Rank.l2, if_pos (by omega), if_pos (by omega), rd_nat _ _ hi, code_f _ (hl _ (List.getElem_mem hi)), Option.bind_some, if_pos (by omega), hj, spec_l7Rank.j3, w64 _ (by omega), ek, free]
    by_cases hs1 : lett a = -(prev w i)
    · rw [decide_eq_true hs1, if_pos rfl, if_pos hs1, Nat.zero_add]
      exact spec_l2 i hi B hB d k (a + 1) s (by omega) (by omega) h0 hs
    · rw [decide_eq_false hs1, if_neg Bool.false_ne_true, if_neg hs1]
      have hne : ¬ 1 + free (prev w i) (a + 1) d = 0 := by omega
      rw [if_neg hne]
      have ec : ((1 + free (prev w i) (a + 1) d : Nat) : Int) * B = B + (free (prev w i) (a + 1) d : Nat) * B := by
        rw [Int.natCast_add, Int.add_mul]; simp
      have hfn : 0 ≤ ((free (prev w i) (a + 1) d : Nat) : Int) * B := Int.mul_nonneg (by omega) (by omega)
      rw [ec]
      by_cases hc : B ≤ 1000000000000
      · have ed : dB B = B := if_pos hc
        have ew : wrap64 (s + B) = s + B := by unfold wrap64; omega
        have ih := spec_l2 i hi B hB d k (a + 1) (s + B) (by omega) (by omega) (by omega)
        rw [ed] at ih ⊢
        rw [if_neg (by omega), ew]
        by_cases hq : s + B ≤ 1000000000000
        · rw [if_neg (by omega), ih hq]
          by_cases hf : free (prev w i) (a + 1) d = 0
          · rw [if_pos hf, hf]; simp only [Int.natCast_zero, Int.zero_mul, Int.add_zero]
            rw [if_pos hq]
          · rw [if_neg hf, Int.add_assoc]
        · rw [if_pos (by omega), if_neg (by omega)]
      · have ed : dB B = -1 := if_neg hc
        rw [ed, if_pos (by omega), if_neg (by omega)]
theorem spec_ph2 : ∀ (d k i : Nat) (s : Int), i + d = w.length → 30 * d + 100 < k → 0 ≤ s → s ≤ 1000000000000 →
    spec_l7Rank.l1 k w n s (i : Int) = some (match ph2 w n d i s with | none => -1 | some r => r)
  | 0, k + 1, i, s, hi, _, _, _ => by
    rw [spec_l7Rank.l1, if_neg (by omega)]; rfl
  | d + 1, k + 1, i, s, hi, hk, h0, hs => by
    have h : i < w.length := by omega
    have hcl := code_lt _ (hl _ (List.getElem_mem h))
    have hg : w.getD i 0 = w[i] := by simp [h]
    have e1 : wrap64 ((w.length : Int) - 1) = (w.length : Int) - 1 := by unfold wrap64; omega
    have e2 : wrap64 ((w.length : Int) - 1 - (i : Int)) = ((d : Nat) : Int) := by unfold wrap64; omega
    have hp := pow_one_le (2 * n - 1) (by omega) d
    have h2 := spec_l2 w n h1 h6 hw hl i h ((2 * n - 1) ^ d) hp (codeN w[i]) k 0 s (by omega) (by omega) h0 hs
    have h2' : spec_l7Rank.l2 k w n s (i : Int) (dB ((2 * n - 1) ^ d)) 0 = _ := h2
    rw [spec_l7Rank.l1, if_pos (by omega), e1, e2, l7Behind_f n h1 h6 d k (by omega) (by omega), Option.bind_some, h2', ph2, hg]
    by_cases hz : free (prev w i) 0 (codeN w[i]) = 0
    · rw [if_pos hz, if_pos hz]
      exact spec_ph2 d _ (i + 1) s (by omega) (by omega) h0 hs
    · rw [if_neg hz, if_neg hz]
      have hf : 0 ≤ ((free (prev w i) 0 (codeN w[i]) : Nat) : Int) * (2 * n - 1) ^ d := Int.mul_nonneg (by omega) (by omega)
      by_cases hq : s + (free (prev w i) 0 (codeN w[i]) : Nat) * (2 * n - 1) ^ d ≤ 1000000000000
      · rw [if_pos hq, if_pos hq]
        exact spec_ph2 d _ (i + 1) _ (by omega) (by omega) (by omega) hq
      · rw [if_neg hq, if_neg hq]
include hn ha
theorem impl_ph2 : ∀ (d k i : Nat) (s : Int), i + d = w.length → d + 100 < k → 0 ≤ s → s ≤ 1000000000000 →
    impl_RankWord.l1 k w n s (prev w i) w (w.length : Int) (i : Int) = some (match ph2 w n d i s with | none => (0, false) | some r => (r, true))
  | 0, k + 1, i, s, hi, _, _, _ => by
    rw [impl_RankWord.l1, if_neg (by omega)]; rfl
  | d + 1, k + 1, i, s, hi, hk, h0, hs => by
    have h : i < w.length := by omega
    have hg : w.getD i 0 = w[i] := by simp [h]
    have e1 : wrap64 ((w.length : Int) - 1) = (w.length : Int) - 1 := by unfold wrap64; omega
    have e2 : wrap64 ((w.length : Int) - 1 - (i : Int)) = ((d : Nat) : Int) := by unfold wrap64; omega
    have hp := pow_one_le (2 * n - 1) (by omega) d
    have hpr : prev w (i + 1) = w[i] := by simp [prev, h]
    have hpn : ((prev w i).natAbs : Int) ≤ n := by
      by_cases hz : i = 0
      · simp [prev, hz]; omega
      · have hi2 : i - 1 < w.length := by omega
        have : prev w i = w[i - 1] := by simp [prev, hz, hi2]
        rw [this]; exact hn _ (List.getElem_mem _)
    have hx := hl _ (List.getElem_mem h)
    have hne : w[i] ≠ -(prev w i) := by
      by_cases hz : i = 0
      · have := ((Q.letB_iff _).1 hx).1
        simp [prev, hz]; simpa [hz] using this
      · have hi2 : i - 1 < w.length := by omega
        have e : prev w i = w.getD (i - 1) 0 := by simp [prev, hz]
        rw [e, ← hg]; exact ha i (by omega) h
    obtain ⟨t, ht, hidx⟩ := place_f n (prev w i) w[i] h1 h6 hx (hn _ (List.getElem_mem h)) hpn hne
    have ih := impl_ph2 d k (i + 1)
    rw [hpr] at ih
    rw [impl_RankWord.l1, if_pos (by omega), if_pos (by omega), if_pos (by omega), ht, Option.bind_some, rd_nat _ _ h, hidx k (by omega), Option.bind_some, w64 _ (by omega), ph2, hg]
    by_cases hz : free (prev w i) 0 (codeN w[i]) = 0
    · rw [if_pos hz, hz, if_neg (by omega), if_neg (by omega)]
      exact ih s (by omega) (by omega) h0 hs
    · have hfp : 1 ≤ ((free (prev w i) 0 (codeN w[i]) : Nat) : Int) := by omega
      have hfu : ((free (prev w i) 0 (codeN w[i]) : Nat) : Int) ≤ 1000000000000 := by
        have hcl := code_lt _ hx
        have : ∀ (q : Int) (d a : Nat), free q a d ≤ d := by
          intro q d
          induction d with
          | zero => intro a; simp [free]
          | succ d ih => intro a; have := ih (a + 1); rw [free]; split <;> omega
        have := this (prev w i) (codeN w[i]) 0
        omega
      rw [if_neg hz, if_pos (by omega), e1, e2, tails_f n h1 h6 d k (by omega) (by omega), Option.bind_some, times_f _ _ (cap_nonneg _ (by omega)) hfp hfu, Option.bind_some, cap_mul _ _ (by omega) hfp, Int.mul_comm ((2 * n - 1) ^ d)]
      have hf : 0 ≤ ((free (prev w i) 0 (codeN w[i]) : Nat) : Int) * (2 * n - 1) ^ d := Int.mul_nonneg (by omega) (by omega)
      by_cases hc : ((free (prev w i) 0 (codeN w[i]) : Nat) : Int) * (2 * n - 1) ^ d ≤ 1000000000000
      · have ed : cap (((free (prev w i) 0 (codeN w[i]) : Nat) : Int) * (2 * n - 1) ^ d) = _ := if_pos hc
        have ew : wrap64 (s + ((free (prev w i) 0 (codeN w[i]) : Nat) : Int) * (2 * n - 1) ^ d) = s + ((free (prev w i) 0 (codeN w[i]) : Nat) : Int) * (2 * n - 1) ^ d := by unfold wrap64; omega
        rw [ed, ew]
        by_cases hq : s + (free (prev w i) 0 (codeN w[i]) : Nat) * (2 * n - 1) ^ d ≤ 1000000000000
        · rw [if_neg (by omega), if_pos hq]; exact ih _ (by omega) (by omega) (by omega) hq
        · rw [if_pos (by omega), if_neg hq]
      · have ed : cap (((free (prev w i) 0 (codeN w[i]) : Nat) : Int) * (2 * n - 1) ^ d) = 1000000000001 := if_neg hc
        have ew : wrap64 (s + 1000000000001) = s + 1000000000001 := by unfold wrap64; omega
        rw [ed, ew, if_pos (by omega), if_neg (by omega)]
end
end Go.Proofs.Ytnpgegfffklcpaa.PFnExactRankWord
namespace Go.Proofs.Ytnpgegfffklcpaa.Pure
open Go.RowKit Go.Proofs.Ytnpgegfffklcpaa.PFnExactRankWord Go.Proofs.YtnpgegfffklcpaaW.PrintWords Go.Proofs.YtnpgegfffklcpaaW.PrintLast
set_option linter.unusedVariables false
set_option linter.unusedSimpArgs false
theorem apart_get : ∀ (w : List Int), Q.apartB w = true → ∀ i, 0 < i → i < w.length → w.getD i 0 ≠ -(w.getD (i - 1) 0)
  | [], _, i, _, h => by simp at h
  | [_], _, i, h0, h => by simp at h; omega
  | a :: b :: t, ha, i, h0, h => by
    simp only [Q.apartB, Bool.and_eq_true, decide_eq_true_eq] at ha
    cases i with
    | zero => omega
    | succ i =>
      cases i with
      | zero => simpa using ha.1
      | succ i =>
        have := apart_get (b :: t) ha.2 (i + 1) (by omega) (by simpa using h)
        simpa using this
def rankOf (w : List Int) (n : Int) : Option Int := (ph1 n w.length 0 0).bind fun s => ph2 w n w.length 0 s
theorem spec_is (w : List Int) (n : Int) (hw : w.length < 1000000000) (k : Nat) (hk : 2 * w.length + 10000 < k) :
    spec_RankWord.f k w n = some (match (if Q.overB w n = true then rankOf w n else none) with | none => (0, false) | some r => (r, true)) := by
  rw [spec_RankWord.f, l7Word_f w n (by omega) k (by omega), Option.bind_some]
  by_cases ho : Q.overB w n = true
  · have ho2 := ho
    simp only [Q.overB, Bool.and_eq_true, decide_eq_true_eq, List.all_eq_true] at ho2
    obtain ⟨⟨h1, h6⟩, hok, hap, hn⟩ := ho2
    obtain ⟨h64, hl⟩ := (Q.okW_iff w).1 hok
    have e1 : spec_l7Rank.f k w n = _ := spec_ph1 w n h1 h6 h64 w.length k 0 0 (by omega) (by omega) (by omega) (by omega)
    rw [if_pos ho, if_pos ho, e1, rankOf]
    cases hp : ph1 n w.length 0 0 with
    | none =>
      have : spec_l1Most.f (-1) 0 = some 0 := by decide
      simp only [Option.bind_some, Option.bind_none, this]; rfl
    | some s =>
      obtain ⟨hs0, hs1⟩ := ph1_ge n h1 w.length 0 0 s (by omega) (by omega) hp
      have e2 := spec_ph2 w n h1 h6 h64 hl w.length (k - w.length - 1) 0 s (by omega) (by omega) hs0 hs1
      have e2' : spec_l7Rank.l1 (k - w.length - 1) w n s 0 = _ := e2
      simp only [Option.bind_some, e2']
      cases hq : ph2 w n w.length 0 s with
      | none =>
        have : spec_l1Most.f (-1) 0 = some 0 := by decide
        simp only [Option.bind_some, this]; rfl
      | some r =>
        have hr := ph2_ge w n h1 w.length 0 s r hs0 hq
        have : spec_l1Most.f r 0 = some r := by
          unfold spec_l1Most.f
          by_cases h : r > 0
          · rw [if_pos h]
          · rw [if_neg h]; congr 1; omega
        simp only [Option.bind_some, this]
        congr 2
        simpa using hr
  · rw [if_neg ho, if_neg ho]
theorem impl_is (w : List Int) (n : Int) (hw : w.length < 1000000000) (k : Nat) (hk : 2 * w.length + 10000 < k) :
    impl_RankWord.f k w n = some (match (if Q.overB w n = true then rankOf w n else none) with | none => (0, false) | some r => (r, true)) := by
  have e0 : impl_isOver.f w n = some (Q.overB w n) := Q.isOver_f w n (by omega) (2 * w.length + 100) (by omega)
  rw [impl_RankWord.f, e0, Option.bind_some]
  by_cases ho : Q.overB w n = true
  · have ho2 := ho
    simp only [Q.overB, Bool.and_eq_true, decide_eq_true_eq, List.all_eq_true] at ho2
    obtain ⟨⟨h1, h6⟩, hok, hap, hn⟩ := ho2
    obtain ⟨h64, hl⟩ := (Q.okW_iff w).1 hok
    have e1 := impl_ph1 w n h1 h6 h64 w.length k 0 0 (by omega) (by omega) (by omega) (by omega)
    have e1' : impl_RankWord.l0 k w n 0 0 (w.length : Int) 0 = _ := e1
    rw [if_pos ho, if_pos ho, e1', rankOf]
    cases hp : ph1 n w.length 0 0 with
    | none => rfl
    | some s =>
      obtain ⟨hs0, hs1⟩ := ph1_ge n h1 w.length 0 0 s (by omega) (by omega) hp
      have e2 := impl_ph2 w n h1 h6 h64 hl hn (apart_get w hap) w.length (k - w.length - 1) 0 s (by omega) (by omega) hs0 hs1
      have e2' : impl_RankWord.l1 (k - w.length - 1) w n s 0 w (w.length : Int) 0 = _ := e2
      simp only [Option.bind_some, e2']
  · rw [if_neg ho, if_neg ho]
theorem FnExactRankWord_law (l : List Int) (s v : Int) (b : Bool) (k : Nat) (hk : 2 * l.length + 20000 < k) (hl : l.length ≤ 1048576)
    (hs : ∀ k, 2 * l.length + 10000 < k → spec_RankWord.f k l s = some (v, b)) (hi : ∀ k, 2 * l.length + 10000 < k → impl_RankWord.f k l s = some (v, b)) : laws_FnExactRankWord.f (k + 10) l s = some true := by
  have hs := hs (k + 10) (by omega)
  have hi := hi (k + 10) (by omega)
  unfold laws_FnExactRankWord.f
  repeat (first
    | exact rfl
    | refine bindS hs ?_
    | refine bindS hi ?_
    | refine bindS (toIntS_f _ _ (by omega) (by omega)) ?_
    | refine bindS (eqIntS_f _ _ (by omega) (by omega)) ?_
    | refine (if_pos rfl).trans ?_
    | refine (if_neg Bool.false_ne_true).trans ?_
    | refine (if_neg (by omega)).trans ?_
    | refine (if_pos (by omega)).trans ?_
    | rw [laws_FnExactRankWord.j0]
    | rw [bne_self_eq_false]
    | dsimp only)

/-- The program's RankWord and the reference's agree at every list and number. -/
theorem FnExactRankWord : laws_FnExactRankWord.Pure := by
  intro l n _ _ _ _
  by_cases h : l.length ≤ 1048576
  · refine ⟨2 * l.length + 30000 + 10, ?_⟩
    exact FnExactRankWord_law l n _ _ (2 * l.length + 30000) (by omega) h (fun k hk => spec_is l n (by omega) k hk) (fun k hk => impl_is l n (by omega) k hk)
  · exact ⟨0, by unfold laws_FnExactRankWord.f; rw [if_pos (by omega)]⟩
end Go.Proofs.Ytnpgegfffklcpaa.Pure
