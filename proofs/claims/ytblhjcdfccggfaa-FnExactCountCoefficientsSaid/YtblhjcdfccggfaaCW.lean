/- What a word is, and how it is reduced, as program and reference do it. Conditions stand in each theorem. -/
import Derived.Test.YtblhjcdfccggfaaCG
import Derived.Test.YtblhjcdfccggfaaQL
namespace Go.Proofs.Ytblhjcdfccggfaa.Q
open Go.RowKit Go.Proofs.YtblhjcdfccggfaaW.PrintWords Go.Proofs.YtblhjcdfccggfaaW.PrintLast Go.Proofs.YtblhjcdfccggfaaW.PrintMore Go.Proofs.YtblhjcdfccggfaaM Go.Proofs.Ytblhjcdfccggfaa.K Go.Proofs.Ytblhjcdfccggfaa.KL
set_option linter.unusedVariables false
set_option linter.unusedSimpArgs false
def redR (s : List Int) (x : Int) : List Int := match s with
  | [] => [x]
  | h :: t => if h = -x then t else x :: h :: t
def okW (w : List Int) : Bool := decide (w.length ≤ 64) && w.all letB
theorem okW_iff (w : List Int) : okW w = true ↔ w.length ≤ 64 ∧ ∀ x ∈ w, letB x = true := by simp [okW, List.all_eq_true]
theorem isLetter_f (x : Int) : impl_isLetter.f x = some (letB x) := by
  unfold impl_isLetter.f letB
  by_cases h0 : x = 0
  · simp [h0]
  · rw [if_neg h0]
    by_cases h1 : x ≥ -6
    · rw [if_pos h1]; congr 1; rw [Bool.eq_iff_iff]; simp; omega
    · rw [if_neg h1]; congr 1; rw [Bool.eq_iff_iff]; simp; omega
theorem l2Letter_f (x : Int) : spec_l2Letter.f x = some (letB x) := by
  unfold spec_l2Letter.f spec_l1In.f letB
  by_cases h0 : x = 0
  · simp [h0]
  · rw [if_neg h0]
    by_cases h1 : x ≥ -6
    · rw [if_pos h1, Option.bind_some]; congr 1; rw [Bool.eq_iff_iff]; simp; omega
    · rw [if_neg h1, Option.bind_some]; congr 1; rw [Bool.eq_iff_iff]; simp; omega
theorem IndexFunc_any (l : List Int) (g : Int → Option Bool) (p : Int → Bool) (hg : ∀ x ∈ l, g x = some (p x)) (hm : l.length < 9223372036854775807) : ∀ (n k i : Nat), i + n = l.length → n < k → ∃ j, slices_IndexFunc_int_int.l0 k l g (l.length : Int) (i : Int) = some j ∧ decide (j ≥ 0) = (l.drop i).any p
  | 0, k + 1, i, hi, _ => by
    have hi : i = l.length := by omega
    exact ⟨-1, by simp [slices_IndexFunc_int_int.l0, hi], by simp [hi]⟩
  | n + 1, k + 1, i, hi, hk => by
    have h : i < l.length := by omega
    have h' : (i : Int) < (l.length : Int) := by omega
    have hd : l.drop i = l[i] :: l.drop (i + 1) := List.drop_eq_getElem_cons h
    obtain ⟨j, h1, h2⟩ := IndexFunc_any l g p hg hm n k (i + 1) (by omega) (by omega)
    rw [slices_IndexFunc_int_int.l0, if_pos h', if_pos (by omega), if_pos h', rd_nat _ _ h, w64 _ (by omega), hg _ (List.getElem_mem h), h1, hd]
    simp only [Option.bind_some, List.any_cons]
    cases hp : p l[i] with
    | true => exact ⟨(i : Int), by simp, by simp⟩
    | false => exact ⟨j, by simp, by simpa using h2⟩
theorem ContainsFunc_any (l : List Int) (g : Int → Option Bool) (p : Int → Bool) (hg : ∀ x ∈ l, g x = some (p x)) (k : Nat) (hm : l.length < 9223372036854775807) (hk : l.length < k) : slices_ContainsFunc_int_int.f k l g = some (l.any p) := by
  obtain ⟨j, h1, h2⟩ := IndexFunc_any l g p hg hm l.length k 0 (by omega) hk
  simp only [slices_ContainsFunc_int_int.f, slices_IndexFunc_int_int.f]
  have h1' : slices_IndexFunc_int_int.l0 k l g (l.length : Int) 0 = some j := h1
  rw [h1', Option.bind_some, h2, List.drop_zero]
theorem isWord_f (w : List Int) (k : Nat) (hw : w.length < 9223372036854775807) (hk : w.length < k) : impl_isWord.f k w = some (okW w) := by
  unfold impl_isWord.f okW
  by_cases h : (w.length : Int) ≤ 64
  · rw [if_pos h, ContainsFunc_any w _ (fun x => !letB x) (fun x _ => by rw [impl_isWord_1.f, isLetter_f]; rfl) k hw hk, Option.bind_some, ← List.not_all_eq_any_not, Bool.not_not, decide_eq_true (by omega), Bool.true_and]
  · rw [if_neg h, decide_eq_false (by omega), Bool.false_and]
theorem l2Word_l0 (w : List Int) (hw : w.length < 9223372036854775807) : ∀ (n k i : Nat), i + n = w.length → 2 * n + 1 < k → i ≤ 65 → spec_l2Word.l0 k w (i : Int) = some (decide (w.length ≤ 64) && (w.drop i).all letB)
  | 0, k + 2, i, hi, _, _ => by
    have hi : i = w.length := by omega
    have e : decide ((w.length : Int) ≤ 64) = decide (w.length ≤ 64) := by rw [decide_eq_decide]; omega
    rw [spec_l2Word.l0, if_neg (by omega), spec_l2Word.j1, if_neg (by simp), hi, e]
    simp
  | n + 1, k + 2, i, hi, hk, h65 => by
    have h : i < w.length := by omega
    have hd : w.drop i = w[i] :: w.drop (i + 1) := List.drop_eq_getElem_cons h
    rw [spec_l2Word.l0, if_pos (by omega), spec_l2Word.j1]
    by_cases h64 : i ≤ 64
    · rw [if_pos (decide_eq_true (by omega)), if_pos (by omega), if_pos (by omega), rd_nat _ _ h, l2Letter_f, Option.bind_some, w64 _ (by omega), hd]
      simp only [List.all_cons]
      by_cases hl : letB w[i] = true
      · rw [if_pos hl, l2Word_l0 w hw n k (i + 1) (by omega) (by omega) (by omega)]; simp [hl]
      · rw [if_neg hl]; simp [hl]
    · rw [if_neg (by simp; omega)]
      have h1 : ¬ w.length ≤ 64 := by omega
      have h2 : ¬ (w.length : Int) ≤ 64 := by omega
      rw [decide_eq_false h1, decide_eq_false h2]; rfl
theorem l2Word_f (w : List Int) (k : Nat) (hw : w.length < 9223372036854775807) (hk : 2 * w.length + 1 < k) : spec_l2Word.f k w = some (okW w) := by
  have : spec_l2Word.f k w = _ := l2Word_l0 w hw w.length k 0 (by omega) hk (by omega)
  rw [this, List.drop_zero]; rfl

/-! reducing, as the code does it -/
theorem rd_last (a : Int) (t : List Int) : rd (a :: t).reverse ((((a :: t).reverse.length : Int)) - 1) = a := by
  have : ((((a :: t).reverse.length : Int)) - 1) = ((t.length : Nat) : Int) := by simp
  rw [this, rd_nat _ _ (by simp)]
  simp [List.getElem_append_right]
theorem take_last (a : Int) (t : List Int) : (a :: t).reverse.take (((((a :: t).reverse.length : Int)) - 1)).toNat = t.reverse := by
  have : ((((a :: t).reverse.length : Int)) - 1).toNat = t.reverse.length := by simp
  rw [this, List.reverse_cons, List.take_left]
theorem wneg (x : Int) (h : letB x = true) : wrap64 (-x) = -x := by
  have := (letB_iff x).1 h; unfold wrap64; omega
theorem wlen (s : List Int) (h : s.length < 9223372036854775807) : wrap64 ((s.length : Int) - 1) = (s.length : Int) - 1 := by unfold wrap64; omega
theorem l2Reduce_l0 (w : List Int) (hw : w.length < 2000000) (hl : ∀ x ∈ w, letB x = true) : ∀ (n k i : Nat) (s : List Int), i + n = w.length → n < k → s.length + n < 2000000 →
    spec_l2Reduce.l0 k w s.reverse (i : Int) = some ((w.drop i).foldl redR s).reverse
  | 0, k + 1, i, s, hi, _, _ => by
    have hi : i = w.length := by omega
    rw [spec_l2Reduce.l0, if_neg (by omega)]; simp [hi]
  | n + 1, k + 1, i, s, hi, hk, hs => by
    have h : i < w.length := by omega
    have hd : w.drop i = w[i] :: w.drop (i + 1) := List.drop_eq_getElem_cons h
    have hx := hl _ (List.getElem_mem h)
    rw [spec_l2Reduce.l0, if_pos (by omega), hd, List.foldl_cons, rd_nat _ _ h, wneg _ hx, w64 _ (by omega)]
    cases s with
    | nil =>
      rw [if_neg (by simp), if_pos (by omega), if_pos (by simp)]
      have := l2Reduce_l0 w hw hl n k (i + 1) [w[i]] (by omega) (by omega) (by simp; omega)
      simpa [redR] using this
    | cons a t =>
      have hlen : ((a :: t).reverse.length : Int) = (t.length : Int) + 1 := by simp
      have hs' : t.length + 1 + (n + 1) < 2000000 := by simpa using hs
      rw [if_pos (by omega), wlen _ (by omega), if_pos (by omega), if_pos (by omega), if_pos (by omega), rd_last, take_last]
      by_cases e : a = -w[i]
      · rw [if_pos e, if_pos (by omega), l2Reduce_l0 w hw hl n k (i + 1) t (by omega) (by omega) (by omega)]
        simp [redR, e]
      · rw [if_neg e, if_pos (by simp; omega)]
        have := l2Reduce_l0 w hw hl n k (i + 1) (w[i] :: a :: t) (by omega) (by omega) (by simp; omega)
        simpa [redR, e] using this
theorem l2Reduce_f (w : List Int) (hw : w.length < 2000000) (hl : ∀ x ∈ w, letB x = true) (k : Nat) (hk : w.length < k) : spec_l2Reduce.f k w = some (w.foldl redR []).reverse := by
  have : spec_l2Reduce.f k w = _ := l2Reduce_l0 w hw hl w.length k 0 [] (by omega) hk (by simpa using hw)
  rw [this, List.drop_zero]
theorem reduced_l0 (w : List Int) (hw : w.length < 2000000) (hl : ∀ x ∈ w, letB x = true) : ∀ (n k i : Nat) (s : List Int), i + n = w.length → n < k → s.length + n < 2000000 →
    impl_reduced.l0 k s.reverse w (w.length : Int) (i : Int) = some ((w.drop i).foldl redR s).reverse
  | 0, k + 1, i, s, hi, _, _ => by
    have hi : i = w.length := by omega
    rw [impl_reduced.l0, if_neg (by omega)]; simp [hi]
  | n + 1, k + 1, i, s, hi, hk, hs => by
    have h : i < w.length := by omega
    have hd : w.drop i = w[i] :: w.drop (i + 1) := List.drop_eq_getElem_cons h
    have hx := hl _ (List.getElem_mem h)
    rw [impl_reduced.l0, if_pos (by omega), if_pos (by omega), if_pos (by omega), hd, List.foldl_cons, rd_nat _ _ h, wneg _ hx, w64 _ (by omega)]
    cases s with
    | nil =>
      have e1 : wrap64 ((([] : List Int).reverse.length : Int) - 1) = -1 := by unfold wrap64; simp
      rw [e1, if_neg (by omega), if_pos (by simp)]
      have := reduced_l0 w hw hl n k (i + 1) [w[i]] (by omega) (by omega) (by simp; omega)
      simpa [redR] using this
    | cons a t =>
      have hlen : ((a :: t).reverse.length : Int) = (t.length : Int) + 1 := by simp
      have hs' : t.length + 1 + (n + 1) < 2000000 := by simpa using hs
      rw [wlen _ (by omega), if_pos (by omega), if_pos (by omega), if_pos (by omega), rd_last, take_last]
      by_cases e : a = -w[i]
      · rw [if_pos e, if_pos (by omega), reduced_l0 w hw hl n k (i + 1) t (by omega) (by omega) (by omega)]
        simp [redR, e]
      · rw [if_neg e, if_pos (by simp; omega)]
        have := reduced_l0 w hw hl n k (i + 1) (w[i] :: a :: t) (by omega) (by omega) (by simp; omega)
        simpa [redR, e] using this
theorem reduced_f (w : List Int) (hw : w.length < 2000000) (hl : ∀ x ∈ w, letB x = true) (k : Nat) (hk : w.length < k) : impl_reduced.f k w = some (w.foldl redR []).reverse := by
  have : impl_reduced.f k w = _ := reduced_l0 w hw hl w.length k 0 [] (by omega) hk (by simpa using hw)
  rw [this, List.drop_zero]

/-! taking nails out, as the code does it -/
end Go.Proofs.Ytblhjcdfccggfaa.Q
