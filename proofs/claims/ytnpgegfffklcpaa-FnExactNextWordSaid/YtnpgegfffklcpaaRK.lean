/- Reduced words and the letters that may stand behind a letter, as plain lists; that the program's isOver and choices compute that. Conditions stand in each theorem. -/
import Derived.Test.YtnpgegfffklcpaaQA
namespace Go.Proofs.Ytnpgegfffklcpaa.Q
open Go.RowKit Go.Proofs.YtnpgegfffklcpaaW.PrintWords Go.Proofs.YtnpgegfffklcpaaW.PrintLast Go.Proofs.YtnpgegfffklcpaaW.PrintMore Go.Proofs.YtnpgegfffklcpaaM Go.Proofs.Ytnpgegfffklcpaa.K
set_option linter.unusedVariables false
set_option linter.unusedSimpArgs false
theorem w64 (i : Nat) (h : i < 9223372036854775807) : wrap64 ((i : Int) + 1) = ((i + 1 : Nat) : Int) := by
  unfold wrap64; omega
theorem rd_nat (l : List Int) (i : Nat) (h : i < l.length) : rd l (i : Int) = l[i] := by
  simp [rd, h]
/-! reducing, on a stack whose head is the last letter -/
def redR (s : List Int) (x : Int) : List Int := match s with
  | [] => [x]
  | h :: t => if h = -x then t else x :: h :: t
def good : List Int → Prop
  | [] => True
  | [_] => True
  | a :: b :: t => a ≠ -b ∧ good (b :: t)
theorem good_tail {a : Int} {t : List Int} (h : good (a :: t)) : good t := by
  cases t with
  | nil => trivial
  | cons b t => exact h.2
theorem redR_good {s : List Int} (h : good s) (x : Int) : good (redR s x) := by
  cases s with
  | nil => trivial
  | cons a t =>
    unfold redR
    by_cases e : a = -x
    · simp only [e, if_true]; exact good_tail h
    · simp only [e, if_false]; exact ⟨fun e2 => e (by omega), h⟩
/-! letters and words -/
def letB (x : Int) : Bool := decide (x ≠ 0 ∧ -6 ≤ x ∧ x ≤ 6)
theorem letB_iff (x : Int) : letB x = true ↔ x ≠ 0 ∧ -6 ≤ x ∧ x ≤ 6 := by simp [letB]
def okW (w : List Int) : Bool := decide (w.length ≤ 64) && w.all letB
theorem okW_iff (w : List Int) : okW w = true ↔ w.length ≤ 64 ∧ ∀ x ∈ w, letB x = true := by simp [okW, List.all_eq_true]
theorem isLetter_f (x : Int) : impl_isLetter.f x = some (letB x) := by
  unfold impl_isLetter.f letB
  by_cases h0 : x = 0
  · simp [h0]
  · rw [if_neg h0]
    by_cases h1 : x ≥ -6
    · rw [if_pos h1]; congr 1; rw [Bool.eq_iff_iff]; simp; omega
    · rw [if_neg h1]; congr 1; rw [Bool.eq_iff_iff]; simp; omega
theorem IndexFunc_any (l : List Int) (g : Int → Option Bool) (p : Int → Bool) (hg : ∀ x ∈ l, g x = some (p x)) (hm : l.length < 9223372036854775807) : ∀ (n k i : Nat), i + n = l.length → n < k → ∃ j, slices_IndexFunc_int_int.l0 k l g (l.length : Int) (i : Int) = some j ∧ decide (j ≥ 0) = (l.drop i).any p
  | 0, k + 1, i, hi, _ => by
    have hi : i = l.length := by omega
    exact ⟨-1, by simp [slices_IndexFunc_int_int.l0, hi], by simp [hi]⟩
  | n + 1, k + 1, i, hi, hk => by
    have h : i < l.length := by omega
    have h' : (i : Int) < (l.length : Int) := by omega
    have hd : l.drop i = l[i] :: l.drop (i + 1) := List.drop_eq_getElem_cons h
    obtain ⟨j, h1, h2⟩ := IndexFunc_any l g p hg hm n k (i + 1) (by omega) (by omega)
    rw [slices_IndexFunc_int_int.l0, if_pos h', if_pos (by omega), if_pos h', rd_nat _ _ h, w64 _ (by omega), hg _ (List.getElem_mem h), h1, hd]
    simp only [Option.bind_some, List.any_cons]
    cases hp : p l[i] with
    | true => exact ⟨(i : Int), by simp, by simp⟩
    | false => exact ⟨j, by simp, by simpa using h2⟩
theorem ContainsFunc_any (l : List Int) (g : Int → Option Bool) (p : Int → Bool) (hg : ∀ x ∈ l, g x = some (p x)) (k : Nat) (hm : l.length < 9223372036854775807) (hk : l.length < k) : slices_ContainsFunc_int_int.f k l g = some (l.any p) := by
  obtain ⟨j, h1, h2⟩ := IndexFunc_any l g p hg hm l.length k 0 (by omega) hk
  simp only [slices_ContainsFunc_int_int.f, slices_IndexFunc_int_int.f]
  have h1' : slices_IndexFunc_int_int.l0 k l g (l.length : Int) 0 = some j := h1
  rw [h1', Option.bind_some, h2, List.drop_zero]
theorem isWord_f (w : List Int) (k : Nat) (hw : w.length < 9223372036854775807) (hk : w.length < k) : impl_isWord.f k w = some (okW w) := by
  unfold impl_isWord.f okW
  by_cases h : (w.length : Int) ≤ 64
  · rw [if_pos h, ContainsFunc_any w _ (fun x => !letB x) (fun x _ => by rw [impl_isWord_1.f, isLetter_f]; rfl) k hw hk, Option.bind_some, ← List.not_all_eq_any_not, Bool.not_not, decide_eq_true (by omega), Bool.true_and]
  · rw [if_neg h, decide_eq_false (by omega), Bool.false_and]
/-! reducing, as the code does it -/
theorem rd_last (a : Int) (t : List Int) : rd (a :: t).reverse ((((a :: t).reverse.length : Int)) - 1) = a := by
  have : ((((a :: t).reverse.length : Int)) - 1) = ((t.length : Nat) : Int) := by simp
  rw [this, rd_nat _ _ (by simp)]
  simp [List.getElem_append_right]
theorem take_last (a : Int) (t : List Int) : (a :: t).reverse.take (((((a :: t).reverse.length : Int)) - 1)).toNat = t.reverse := by
  have : ((((a :: t).reverse.length : Int)) - 1).toNat = t.reverse.length := by simp
  rw [this, List.reverse_cons, List.take_left]
theorem wneg (x : Int) (h : letB x = true) : wrap64 (-x) = -x := by
  have := (letB_iff x).1 h; unfold wrap64; omega
theorem wlen (s : List Int) (h : s.length < 9223372036854775807) : wrap64 ((s.length : Int) - 1) = (s.length : Int) - 1 := by unfold wrap64; omega
theorem reduced_l0 (w : List Int) (hw : w.length < 1000000) (hl : ∀ x ∈ w, letB x = true) : ∀ (n k i : Nat) (s : List Int), i + n = w.length → n < k → s.length + n < 1000000 →
    impl_reduced.l0 k s.reverse w (w.length : Int) (i : Int) = some ((w.drop i).foldl redR s).reverse
  | 0, k + 1, i, s, hi, _, _ => by
    have hi : i = w.length := by omega
    rw [impl_reduced.l0, if_neg (by omega)]; simp [hi]
  | n + 1, k + 1, i, s, hi, hk, hs => by
    have h : i < w.length := by omega
    have hd : w.drop i = w[i] :: w.drop (i + 1) := List.drop_eq_getElem_cons h
    have hx := hl _ (List.getElem_mem h)
    rw [impl_reduced.l0, if_pos (by omega), if_pos (by omega), if_pos (by omega), hd, List.foldl_cons, rd_nat _ _ h, wneg _ hx, w64 _ (by omega)]
    cases s with
    | nil =>
      have e1 : wrap64 ((([] : List Int).reverse.length : Int) - 1) = -1 := by unfold wrap64; simp
      rw [e1, if_neg (by omega), if_pos (by simp)]
      have := reduced_l0 w hw hl n k (i + 1) [w[i]] (by omega) (by omega) (by simp; omega)
      simpa [redR] using this
    | cons a t =>
      have hlen : ((a :: t).reverse.length : Int) = (t.length : Int) + 1 := by simp
      have hs' : t.length + 1 + (n + 1) < 1000000 := by simpa using hs
      rw [wlen _ (by omega), if_pos (by omega), if_pos (by omega), if_pos (by omega), rd_last, take_last]
      by_cases e : a = -w[i]
      · rw [if_pos e, if_pos (by omega), reduced_l0 w hw hl n k (i + 1) t (by omega) (by omega) (by omega)]
        simp [redR, e]
      · rw [if_neg e, if_pos (by simp; omega)]
        have := reduced_l0 w hw hl n k (i + 1) (w[i] :: a :: t) (by omega) (by omega) (by simp; omega)
        simpa [redR, e] using this
theorem reduced_f (w : List Int) (hw : w.length < 1000000) (hl : ∀ x ∈ w, letB x = true) (k : Nat) (hk : w.length < k) : impl_reduced.f k w = some (w.foldl redR []).reverse := by
  have : impl_reduced.f k w = _ := reduced_l0 w hw hl w.length k 0 [] (by omega) hk (by simpa using hw)
  rw [this, List.drop_zero]


/-! reduced words -/
def apartB : List Int → Bool
  | [] => true
  | [_] => true
  | a :: b :: t => decide (b ≠ -a) && apartB (b :: t)
/-- what stands on a stack's head, and what follows, are no letter and its opposite -/
def meets (s w : List Int) : Bool := match s, w with
  | a :: _, b :: _ => decide (b ≠ -a)
  | _, _ => true
theorem fold_len : ∀ (w s : List Int), (w.foldl redR s).length ≤ s.length + w.length ∧ ((w.foldl redR s).length = s.length + w.length ↔ meets s w = true ∧ apartB w = true)
  | [], s => by cases s <;> simp [meets, apartB]
  | x :: w, s => by
    obtain ⟨h1, h2⟩ := fold_len w (redR s x)
    rw [List.foldl_cons]
    cases s with
    | nil =>
      have e : redR [] x = [x] := rfl
      rw [e] at h1 h2 ⊢
      simp only [List.length_cons, List.length_nil] at h1 h2 ⊢
      refine ⟨by omega, ?_⟩
      have h3 : (List.foldl redR [x] w).length = 0 + (w.length + 1) ↔ (List.foldl redR [x] w).length = 0 + 1 + w.length := by omega
      rw [h3, h2]
      cases w with
      | nil => simp [meets, apartB]
      | cons y w => simp [meets, apartB]
    | cons a t =>
      by_cases e : a = -x
      · have e1 : redR (a :: t) x = t := by simp [redR, e]
        rw [e1] at h1 h2 ⊢
        have hm : meets (a :: t) (x :: w) = false := by simp [meets, e]
        simp only [List.length_cons] at *
        refine ⟨by omega, ?_⟩
        rw [hm]
        constructor
        · intro h; omega
        · rintro ⟨h, _⟩; cases h
      · have e1 : redR (a :: t) x = x :: a :: t := by simp [redR, e]
        rw [e1] at h1 h2 ⊢
        have hm : meets (a :: t) (x :: w) = true := by simp [meets]; omega
        simp only [List.length_cons] at *
        refine ⟨by omega, ?_⟩
        have h3 : (List.foldl redR (x :: a :: t) w).length = t.length + 1 + (w.length + 1) ↔ (List.foldl redR (x :: a :: t) w).length = t.length + 1 + 1 + w.length := by omega
        rw [h3, h2, hm]
        cases w with
        | nil => simp [meets, apartB]
        | cons y w => simp [meets, apartB]
theorem fold_len0 (w : List Int) : decide (((w.foldl redR []).reverse.length : Int) = (w.length : Int)) = apartB w := by
  have h := (fold_len w []).2
  rw [Bool.eq_iff_iff, decide_eq_true_iff, List.length_reverse]
  have h2 : meets [] w = true := by cases w <;> rfl
  simp only [List.length_nil, Nat.zero_add, h2, true_and] at h
  rw [← h]; omega

/-- a reduced word with letters of the nails 1..n alone -/
def overB (w : List Int) (n : Int) : Bool := decide (1 ≤ n ∧ n ≤ 6) && (okW w && (apartB w && w.all fun x => decide ((x.natAbs : Int) ≤ n)))
theorem isNail_f (n : Int) : impl_isNail.f n = some (decide (1 ≤ n ∧ n ≤ 6)) := by
  unfold impl_isNail.f
  by_cases h : n ≥ 1
  · rw [if_pos h]; congr 1; rw [Bool.eq_iff_iff]; simp; omega
  · rw [if_neg h]; congr 1; rw [Bool.eq_iff_iff]; simp; omega
theorem nail_f (x : Int) (hx : letB x = true) : impl_nail.f x = some ((x.natAbs : Nat) : Int) := by
  rw [impl_nail.f, wneg x hx]
  congr 1
  unfold mx
  split <;> omega
theorem isOver_f (w : List Int) (n : Int) (hw : w.length < 9223372036854775807) (k : Nat) (hk : w.length + 70 < k) : impl_isOver.f k w n = some (overB w n) := by
  rw [impl_isOver.f, isNail_f, Option.bind_some, overB]
  by_cases hn : 1 ≤ n ∧ n ≤ 6
  · rw [if_pos (decide_eq_true hn), isWord_f w k hw (by omega), Option.bind_some, decide_eq_true hn, Bool.true_and]
    by_cases ho : okW w = true
    · obtain ⟨h1, h2⟩ := (okW_iff w).1 ho
      rw [if_pos ho, reduced_f w (by omega) h2 k (by omega), Option.bind_some, ho, Bool.true_and]
      have hl := fold_len0 w
      by_cases he : ((w.foldl redR []).reverse.length : Int) = (w.length : Int)
      · rw [if_pos he]
        rw [decide_eq_true he] at hl
        rw [← hl, Bool.true_and, ContainsFunc_any w (fun x_ => impl_isOver_1.f x_ n) (fun x => decide ((x.natAbs : Int) > n)) (fun x hx => by rw [impl_isOver_1.f, nail_f x (h2 x hx)]; rfl) k hw (by omega), Option.bind_some]
        congr 1
        rw [Bool.eq_iff_iff]
        simp
      · rw [if_neg he]
        rw [decide_eq_false he] at hl
        rw [← hl, Bool.false_and]
    · rw [if_neg ho]
      have : okW w = false := by simpa using ho
      rw [this, Bool.false_and]
  · rw [if_neg (by simpa using hn), decide_eq_false hn, Bool.false_and]
end Go.Proofs.Ytnpgegfffklcpaa.Q
