/- Words as plain lists: what they are reduced to, what falls; and that the program's and the reference's functions of words compute that. Conditions stand in each theorem. -/
import Derived.Test.YtlbhfbanbdahdaaF0
namespace Go.Proofs.Ytlbhfbanbdahdaa.Q
open Go.RowKit Go.Proofs.YtlbhfbanbdahdaaW.PrintWords Go.Proofs.YtlbhfbanbdahdaaW.PrintLast Go.Proofs.YtlbhfbanbdahdaaW.PrintMore Go.Proofs.YtlbhfbanbdahdaaM Go.Proofs.Ytlbhfbanbdahdaa.K
set_option linter.unusedVariables false
set_option linter.unusedSimpArgs false

/-! reducing, on a stack whose head is the last letter -/
def redR (s : List Int) (x : Int) : List Int := match s with
  | [] => [x]
  | h :: t => if h = -x then t else x :: h :: t
def good : List Int → Prop
  | [] => True
  | [_] => True
  | a :: b :: t => a ≠ -b ∧ good (b :: t)
theorem good_tail {a : Int} {t : List Int} (h : good (a :: t)) : good t := by
  cases t with
  | nil => trivial
  | cons b t => exact h.2
theorem redR_good {s : List Int} (h : good s) (x : Int) : good (redR s x) := by
  cases s with
  | nil => trivial
  | cons a t =>
    unfold redR
    by_cases e : a = -x
    · simp only [e, if_true]; exact good_tail h
    · simp only [e, if_false]; exact ⟨fun e2 => e (by omega), h⟩
theorem redR_cancel {s : List Int} (h : good s) (x : Int) : redR (redR s x) (-x) = s := by
  cases s with
  | nil => simp [redR]
  | cons a t =>
    by_cases e : a = -x
    · have e1 : redR (a :: t) x = t := by simp [redR, e]
      rw [e1]
      cases t with
      | nil => simp [redR, e]
      | cons b t =>
        have : ¬ b = x := fun e2 => h.1 (by omega)
        simp [redR, e, this]
    · have e1 : redR (a :: t) x = x :: a :: t := by simp [redR, e]
      rw [e1]; simp [redR]
theorem fold_good : ∀ (w s : List Int), good s → good (w.foldl redR s)
  | [], s, h => h
  | x :: w, s, h => fold_good w _ (redR_good h x)
theorem fold_filter (p : Int → Bool) (hp : ∀ x, p (-x) = p x) : ∀ (w s : List Int), good s →
    (((w.foldl redR s).reverse).filter p).foldl redR [] = (w.filter p).foldl redR ((s.reverse.filter p).foldl redR [])
  | [], s, _ => rfl
  | x :: w, s, h => by
    have ih := fold_filter p hp w (redR s x) (redR_good h x)
    rw [List.foldl_cons, ih]
    have key : ((redR s x).reverse.filter p).foldl redR [] = ([x].filter p).foldl redR ((s.reverse.filter p).foldl redR []) := by
      cases s with
      | nil => simp [redR, List.foldl]
      | cons a t =>
        by_cases e : a = -x
        · have e1 : redR (a :: t) x = t := by simp [redR, e]
          rw [e1, List.reverse_cons, List.filter_append, List.foldl_append]
          have hpa : p a = p x := by rw [e, hp]
          have hg : good ((t.reverse.filter p).foldl redR []) := fold_good _ _ trivial
          have hx : x = -a := by omega
          cases hq : p x with
          | true =>
            rw [List.filter_cons_of_pos (by rw [hpa]; exact hq), List.filter_cons_of_pos hq]
            simp only [List.filter_nil, List.foldl_cons, List.foldl_nil]
            rw [hx, redR_cancel hg]
          | false =>
            rw [List.filter_cons_of_neg (by rw [hpa, hq]; exact Bool.false_ne_true), List.filter_cons_of_neg (by rw [hq]; exact Bool.false_ne_true)]
            rfl
        · have e1 : redR (a :: t) x = x :: a :: t := by simp [redR, e]
          rw [e1, List.reverse_cons, List.filter_append, List.foldl_append]
    rw [key, ← List.foldl_append, ← List.filter_append]
    rfl

/-! what is taken out, and what falls -/
def inM (s x : Int) : Bool := s.toNat.testBit (x.natAbs - 1)
def takenM (w : List Int) (s : Int) : List Int := ((w.filter fun x => !inM s x).foldl redR []).reverse
def fallB (w : List Int) (s : Int) : Bool := (takenM w s).length == 0
theorem inM_up (y x n : Int) (hy : inS y = true) (hx : inS x = true) (h : pt y x = true) (hn : inM y n = true) : inM x n = true := by
  rw [inS_iff] at hy hx
  obtain ⟨y, rfl⟩ := Int.eq_ofNat_of_zero_le hy.1
  obtain ⟨x, rfl⟩ := Int.eq_ofNat_of_zero_le hx.1
  rw [pt_nat _ _ (by omega) (by omega)] at h
  simp only [beq_iff_eq] at h
  simp only [inM, Int.toNat_natCast] at hn ⊢
  have hb := congrArg (Nat.testBit · (n.natAbs - 1)) h
  simp only [Nat.testBit_and, hn, Bool.true_and] at hb
  exact hb
theorem up_fall (w : List Int) : up (fallB w) := by
  intro y x hy hx h hf
  simp only [fallB, takenM, List.length_reverse, beq_iff_eq, List.length_eq_zero_iff] at *
  have e : (w.filter fun n => !inM x n) = (w.filter fun n => !inM y n).filter fun n => !inM x n := by
    rw [List.filter_filter]
    apply List.filter_congr
    intro n _
    cases hn : inM x n with
    | true => simp
    | false =>
      cases hm : inM y n with
      | false => simp
      | true => have := inM_up y x n hy hx h hm; rw [hn] at this; cases this
  have := fold_filter (fun n => !inM x n) (fun n => by simp [inM]) (w.filter fun n => !inM y n) [] trivial
  rw [hf] at this
  rw [e]
  simpa using this.symm

/-! letters and words -/
def letB (x : Int) : Bool := decide (x ≠ 0 ∧ -6 ≤ x ∧ x ≤ 6)
theorem letB_iff (x : Int) : letB x = true ↔ x ≠ 0 ∧ -6 ≤ x ∧ x ≤ 6 := by simp [letB]
def okW (w : List Int) : Bool := decide (w.length ≤ 64) && w.all letB
theorem okW_iff (w : List Int) : okW w = true ↔ w.length ≤ 64 ∧ ∀ x ∈ w, letB x = true := by simp [okW, List.all_eq_true]
theorem isLetter_f (x : Int) : impl_isLetter.f x = some (letB x) := by
  unfold impl_isLetter.f letB
  by_cases h0 : x = 0
  · simp [h0]
  · rw [if_neg h0]
    by_cases h1 : x ≥ -6
    · rw [if_pos h1]; congr 1; rw [Bool.eq_iff_iff]; simp; omega
    · rw [if_neg h1]; congr 1; rw [Bool.eq_iff_iff]; simp; omega
theorem l2Letter_f (x : Int) : spec_l2Letter.f x = some (letB x) := by
  unfold spec_l2Letter.f spec_l1In.f letB
  by_cases h0 : x = 0
  · simp [h0]
  · rw [if_neg h0]
    by_cases h1 : x ≥ -6
    · rw [if_pos h1, Option.bind_some]; congr 1; rw [Bool.eq_iff_iff]; simp; omega
    · rw [if_neg h1, Option.bind_some]; congr 1; rw [Bool.eq_iff_iff]; simp; omega
theorem IndexFunc_any (l : List Int) (g : Int → Option Bool) (p : Int → Bool) (hg : ∀ x ∈ l, g x = some (p x)) (hm : l.length < 9223372036854775807) : ∀ (n k i : Nat), i + n = l.length → n < k → ∃ j, slices_IndexFunc_int_int.l0 k l g (l.length : Int) (i : Int) = some j ∧ decide (j ≥ 0) = (l.drop i).any p
  | 0, k + 1, i, hi, _ => by
    have hi : i = l.length := by omega
    exact ⟨-1, by simp [slices_IndexFunc_int_int.l0, hi], by simp [hi]⟩
  | n + 1, k + 1, i, hi, hk => by
    have h : i < l.length := by omega
    have h' : (i : Int) < (l.length : Int) := by omega
    have hd : l.drop i = l[i] :: l.drop (i + 1) := List.drop_eq_getElem_cons h
    obtain ⟨j, h1, h2⟩ := IndexFunc_any l g p hg hm n k (i + 1) (by omega) (by omega)
    rw [slices_IndexFunc_int_int.l0, if_pos h', if_pos (by omega), if_pos h', rd_nat _ _ h, w64 _ (by omega), hg _ (List.getElem_mem h), h1, hd]
    simp only [Option.bind_some, List.any_cons]
    cases hp : p l[i] with
    | true => exact ⟨(i : Int), by simp, by simp⟩
    | false => exact ⟨j, by simp, by simpa using h2⟩
theorem ContainsFunc_any (l : List Int) (g : Int → Option Bool) (p : Int → Bool) (hg : ∀ x ∈ l, g x = some (p x)) (k : Nat) (hm : l.length < 9223372036854775807) (hk : l.length < k) : slices_ContainsFunc_int_int.f k l g = some (l.any p) := by
  obtain ⟨j, h1, h2⟩ := IndexFunc_any l g p hg hm l.length k 0 (by omega) hk
  simp only [slices_ContainsFunc_int_int.f, slices_IndexFunc_int_int.f]
  have h1' : slices_IndexFunc_int_int.l0 k l g (l.length : Int) 0 = some j := h1
  rw [h1', Option.bind_some, h2, List.drop_zero]
theorem isWord_f (w : List Int) (k : Nat) (hw : w.length < 9223372036854775807) (hk : w.length < k) : impl_isWord.f k w = some (okW w) := by
  unfold impl_isWord.f okW
  by_cases h : (w.length : Int) ≤ 64
  · rw [if_pos h, ContainsFunc_any w _ (fun x => !letB x) (fun x _ => by rw [impl_isWord_1.f, isLetter_f]; rfl) k hw hk, Option.bind_some, ← List.not_all_eq_any_not, Bool.not_not, decide_eq_true (by omega), Bool.true_and]
  · rw [if_neg h, decide_eq_false (by omega), Bool.false_and]
theorem l2Word_l0 (w : List Int) (hw : w.length < 9223372036854775807) : ∀ (n k i : Nat), i + n = w.length → 2 * n + 1 < k → i ≤ 65 → spec_l2Word.l0 k w (i : Int) = some (decide (w.length ≤ 64) && (w.drop i).all letB)
  | 0, k + 2, i, hi, _, _ => by
    have hi : i = w.length := by omega
    have e : decide ((w.length : Int) ≤ 64) = decide (w.length ≤ 64) := by rw [decide_eq_decide]; omega
    rw [spec_l2Word.l0, if_neg (by omega), spec_l2Word.j1, if_neg (by simp), hi, e]
    simp
  | n + 1, k + 2, i, hi, hk, h65 => by
    have h : i < w.length := by omega
    have hd : w.drop i = w[i] :: w.drop (i + 1) := List.drop_eq_getElem_cons h
    rw [spec_l2Word.l0, if_pos (by omega), spec_l2Word.j1]
    by_cases h64 : i ≤ 64
    · rw [if_pos (decide_eq_true (by omega)), if_pos (by omega), if_pos (by omega), rd_nat _ _ h, l2Letter_f, Option.bind_some, w64 _ (by omega), hd]
      simp only [List.all_cons]
      by_cases hl : letB w[i] = true
      · rw [if_pos hl, l2Word_l0 w hw n k (i + 1) (by omega) (by omega) (by omega)]; simp [hl]
      · rw [if_neg hl]; simp [hl]
    · rw [if_neg (by simp; omega)]
      have h1 : ¬ w.length ≤ 64 := by omega
      have h2 : ¬ (w.length : Int) ≤ 64 := by omega
      rw [decide_eq_false h1, decide_eq_false h2]; rfl
theorem l2Word_f (w : List Int) (k : Nat) (hw : w.length < 9223372036854775807) (hk : 2 * w.length + 1 < k) : spec_l2Word.f k w = some (okW w) := by
  have : spec_l2Word.f k w = _ := l2Word_l0 w hw w.length k 0 (by omega) hk (by omega)
  rw [this, List.drop_zero]; rfl

/-! reducing, as the code does it -/
theorem rd_last (a : Int) (t : List Int) : rd (a :: t).reverse ((((a :: t).reverse.length : Int)) - 1) = a := by
  have : ((((a :: t).reverse.length : Int)) - 1) = ((t.length : Nat) : Int) := by simp
  rw [this, rd_nat _ _ (by simp)]
  simp [List.getElem_append_right]
theorem take_last (a : Int) (t : List Int) : (a :: t).reverse.take (((((a :: t).reverse.length : Int)) - 1)).toNat = t.reverse := by
  have : ((((a :: t).reverse.length : Int)) - 1).toNat = t.reverse.length := by simp
  rw [this, List.reverse_cons, List.take_left]
theorem wneg (x : Int) (h : letB x = true) : wrap64 (-x) = -x := by
  have := (letB_iff x).1 h; unfold wrap64; omega
theorem wlen (s : List Int) (h : s.length < 9223372036854775807) : wrap64 ((s.length : Int) - 1) = (s.length : Int) - 1 := by unfold wrap64; omega
theorem l2Reduce_l0 (w : List Int) (hw : w.length < 1000000) (hl : ∀ x ∈ w, letB x = true) : ∀ (n k i : Nat) (s : List Int), i + n = w.length → n < k → s.length + n < 1000000 →
    spec_l2Reduce.l0 k w s.reverse (i : Int) = some ((w.drop i).foldl redR s).reverse
  | 0, k + 1, i, s, hi, _, _ => by
    have hi : i = w.length := by omega
    rw [spec_l2Reduce.l0, if_neg (by omega)]; simp [hi]
  | n + 1, k + 1, i, s, hi, hk, hs => by
    have h : i < w.length := by omega
    have hd : w.drop i = w[i] :: w.drop (i + 1) := List.drop_eq_getElem_cons h
    have hx := hl _ (List.getElem_mem h)
    rw [spec_l2Reduce.l0, if_pos (by omega), hd, List.foldl_cons, rd_nat _ _ h, wneg _ hx, w64 _ (by omega)]
    cases s with
    | nil =>
      rw [if_neg (by simp), if_pos (by omega), if_pos (by simp)]
      have := l2Reduce_l0 w hw hl n k (i + 1) [w[i]] (by omega) (by omega) (by simp; omega)
      simpa [redR] using this
    | cons a t =>
      have hlen : ((a :: t).reverse.length : Int) = (t.length : Int) + 1 := by simp
      have hs' : t.length + 1 + (n + 1) < 1000000 := by simpa using hs
      rw [if_pos (by omega), wlen _ (by omega), if_pos (by omega), if_pos (by omega), if_pos (by omega), rd_last, take_last]
      by_cases e : a = -w[i]
      · rw [if_pos e, if_pos (by omega), l2Reduce_l0 w hw hl n k (i + 1) t (by omega) (by omega) (by omega)]
        simp [redR, e]
      · rw [if_neg e, if_pos (by simp; omega)]
        have := l2Reduce_l0 w hw hl n k (i + 1) (w[i] :: a :: t) (by omega) (by omega) (by simp; omega)
        simpa [redR, e] using this
theorem l2Reduce_f (w : List Int) (hw : w.length < 1000000) (hl : ∀ x ∈ w, letB x = true) (k : Nat) (hk : w.length < k) : spec_l2Reduce.f k w = some (w.foldl redR []).reverse := by
  have : spec_l2Reduce.f k w = _ := l2Reduce_l0 w hw hl w.length k 0 [] (by omega) hk (by simpa using hw)
  rw [this, List.drop_zero]
theorem reduced_l0 (w : List Int) (hw : w.length < 1000000) (hl : ∀ x ∈ w, letB x = true) : ∀ (n k i : Nat) (s : List Int), i + n = w.length → n < k → s.length + n < 1000000 →
    impl_reduced.l0 k s.reverse w (w.length : Int) (i : Int) = some ((w.drop i).foldl redR s).reverse
  | 0, k + 1, i, s, hi, _, _ => by
    have hi : i = w.length := by omega
    rw [impl_reduced.l0, if_neg (by omega)]; simp [hi]
  | n + 1, k + 1, i, s, hi, hk, hs => by
    have h : i < w.length := by omega
    have hd : w.drop i = w[i] :: w.drop (i + 1) := List.drop_eq_getElem_cons h
    have hx := hl _ (List.getElem_mem h)
    rw [impl_reduced.l0, if_pos (by omega), if_pos (by omega), if_pos (by omega), hd, List.foldl_cons, rd_nat _ _ h, wneg _ hx, w64 _ (by omega)]
    cases s with
    | nil =>
      have e1 : wrap64 ((([] : List Int).reverse.length : Int) - 1) = -1 := by unfold wrap64; simp
      rw [e1, if_neg (by omega), if_pos (by simp)]
      have := reduced_l0 w hw hl n k (i + 1) [w[i]] (by omega) (by omega) (by simp; omega)
      simpa [redR] using this
    | cons a t =>
      have hlen : ((a :: t).reverse.length : Int) = (t.length : Int) + 1 := by simp
      have hs' : t.length + 1 + (n + 1) < 1000000 := by simpa using hs
      rw [wlen _ (by omega), if_pos (by omega), if_pos (by omega), if_pos (by omega), rd_last, take_last]
      by_cases e : a = -w[i]
      · rw [if_pos e, if_pos (by omega), reduced_l0 w hw hl n k (i + 1) t (by omega) (by omega) (by omega)]
        simp [redR, e]
      · rw [if_neg e, if_pos (by simp; omega)]
        have := reduced_l0 w hw hl n k (i + 1) (w[i] :: a :: t) (by omega) (by omega) (by simp; omega)
        simpa [redR, e] using this
theorem reduced_f (w : List Int) (hw : w.length < 1000000) (hl : ∀ x ∈ w, letB x = true) (k : Nat) (hk : w.length < k) : impl_reduced.f k w = some (w.foldl redR []).reverse := by
  have : impl_reduced.f k w = _ := reduced_l0 w hw hl w.length k 0 [] (by omega) hk (by simpa using hw)
  rw [this, List.drop_zero]

/-! taking nails out, as the code does it -/
theorem let13 {P : Int → Prop} (h : ∀ i : Fin 13, letB ((i.val : Int) - 6) = true → P ((i.val : Int) - 6)) (x : Int) (hx : letB x = true) : P x := by
  have h1 := (letB_iff x).1 hx
  have e : (((x + 6).toNat : Nat) : Int) - 6 = x := by omega
  have := h ⟨(x + 6).toNat, by omega⟩
  simp only [e] at this
  exact this hx
theorem nails_eq : ∀ s : Fin 64, ∀ i : Fin 13, letB ((i.val : Int) - 6) = true →
    impl_taken_1.f ((i.val : Int) - 6) ((s.val : Nat) : Int) = some (inM ((s.val : Nat) : Int) ((i.val : Int) - 6)) ∧
    ((spec_l2Nail.f ((i.val : Int) - 6)).bind fun t => spec_l3In.f ((s.val : Nat) : Int) t) = some (inM ((s.val : Nat) : Int) ((i.val : Int) - 6)) := by decide +kernel
theorem taken1_f (s : Fin 64) (x : Int) (hx : letB x = true) : impl_taken_1.f x ((s.val : Nat) : Int) = some (inM ((s.val : Nat) : Int) x) := let13 (P := fun x => impl_taken_1.f x ((s.val : Nat) : Int) = some (inM ((s.val : Nat) : Int) x)) (fun i hi => (nails_eq s i hi).1) x hx
theorem spec1_f (s : Fin 64) (x : Int) (hx : letB x = true) : ((spec_l2Nail.f x).bind fun t => spec_l3In.f ((s.val : Nat) : Int) t) = some (inM ((s.val : Nat) : Int) x) := let13 (P := fun x => ((spec_l2Nail.f x).bind fun t => spec_l3In.f ((s.val : Nat) : Int) t) = some (inM ((s.val : Nat) : Int) x)) (fun i hi => (nails_eq s i hi).2) x hx
theorem delF_filter (g : Int → Option Bool) (p : Int → Bool) : ∀ (l : List Int), (∀ x ∈ l, g x = some (p x)) → delF g l = some (l.filter fun x => !p x)
  | [], _ => rfl
  | x :: t, h => by
    rw [delF, h x (by simp), delF_filter g p t (fun y hy => h y (by simp [hy]))]
    cases hp : p x <;> simp [hp]
theorem taken_f (w : List Int) (s : Fin 64) (hw : okW w = true) (k : Nat) (hk : 64 < k) : impl_taken.f k w ((s.val : Nat) : Int) = some (takenM w ((s.val : Nat) : Int)) := by
  obtain ⟨h1, h2⟩ := (okW_iff w).1 hw
  have hf := List.length_filter_le (fun x => !inM ((s.val : Nat) : Int) x) w
  rw [impl_taken.f, slices_Clone_int_int.f, if_pos (by omega), Option.bind_some, slices_DeleteFunc_int_int.f, delF_filter _ (inM ((s.val : Nat) : Int)) w (fun x hx => taken1_f s x (h2 x hx)), Option.bind_some,
    reduced_f _ (by omega) (fun x hx => h2 x (List.mem_filter.1 hx).1) k (by omega)]
  rfl
theorem falls_f (w : List Int) (s : Fin 64) (hw : okW w = true) (k : Nat) (hk : 64 < k) : impl_falls.f k w ((s.val : Nat) : Int) = some (fallB w ((s.val : Nat) : Int)) := by
  rw [impl_falls.f, taken_f w s hw k hk, Option.bind_some, fallB]
  congr 1
  rw [Bool.eq_iff_iff]; simp
theorem l3Take_l0 (w : List Int) (s : Fin 64) (hw : okW w = true) : ∀ (n k i : Nat) (out : List Int), i + n = w.length → out = (w.take i).filter (fun x => !inM ((s.val : Nat) : Int) x) → n + 65 < k → spec_l3Take.l0 k w ((s.val : Nat) : Int) out (i : Int) = some (takenM w ((s.val : Nat) : Int))
  | 0, k + 1, i, out, hi, ho, hk => by
    obtain ⟨h1, h2⟩ := (okW_iff w).1 hw
    have hi : i = w.length := by omega
    rw [hi, List.take_length] at ho
    have hf := List.length_filter_le (fun x => !inM ((s.val : Nat) : Int) x) w
    rw [spec_l3Take.l0, if_neg (by omega), ho, l2Reduce_f _ (by omega) (fun x hx => h2 x (List.mem_filter.1 hx).1) k (by omega)]
    rfl
  | n + 1, k + 1, i, out, hi, ho, hk => by
    obtain ⟨h1, h2⟩ := (okW_iff w).1 hw
    have h : i < w.length := by omega
    have hx := spec1_f s w[i] (h2 _ (List.getElem_mem h))
    have hf := List.length_filter_le (fun x => !inM ((s.val : Nat) : Int) x) (w.take i)
    have hti : (w.take i).length ≤ w.length := by rw [List.length_take]; omega
    have et : w.take (i + 1) = w.take i ++ [w[i]] := (List.take_append_getElem h).symm
    rw [spec_l3Take.l0, if_pos (by omega), if_pos (by omega), rd_nat _ _ h]
    obtain ⟨t, ht, ht2⟩ := Option.bind_eq_some_iff.1 hx
    rw [ht, Option.bind_some, ht2, Option.bind_some, w64 _ (by omega)]
    cases hb : inM ((s.val : Nat) : Int) w[i] with
    | true =>
      simp only [if_true]
      exact l3Take_l0 w s hw n k (i + 1) out (by omega) (by rw [et, List.filter_append, ho]; simp [hb]) (by omega)
    | false =>
      simp only [Bool.false_eq_true, if_false]
      rw [if_pos (by rw [ho]; omega)]
      exact l3Take_l0 w s hw n k (i + 1) _ (by omega) (by rw [et, List.filter_append, ho]; simp [hb]) (by omega)
theorem l3Take_f (w : List Int) (s : Fin 64) (hw : okW w = true) (k : Nat) (hk : 130 < k) : spec_l3Take.f k w ((s.val : Nat) : Int) = some (takenM w ((s.val : Nat) : Int)) := by
  have h1 := ((okW_iff w).1 hw).1
  exact l3Take_l0 w s hw w.length k 0 [] (by omega) (by simp) (by omega)
theorem l3Falls_f (w : List Int) (s : Fin 64) (hw : okW w = true) (k : Nat) (hk : 130 < k) : spec_l3Falls.f k w ((s.val : Nat) : Int) = some (fallB w ((s.val : Nat) : Int)) := by
  rw [spec_l3Falls.f, l3Take_f w s hw k hk, Option.bind_some, fallB]
  congr 1
  rw [Bool.eq_iff_iff]; simp
theorem l3Table_l0 (w : List Int) (hw : okW w = true) : ∀ (n k i : Nat) (m : List Bool), i + n = 64 → m.length = 64 → m.take i = ((List.range i).map fun j => fallB w ((j : Nat) : Int)) → n + 131 < k → spec_l3Table.l0 k w (i : Int) m = some (tb (fallB w))
  | 0, k + 1, i, m, hi, hm, ht, _ => by
    have hi : i = 64 := by omega
    have e : m.take i = m := List.take_of_length_le (by omega)
    rw [e] at ht
    rw [spec_l3Table.l0, if_neg (by omega), ht, hi]; rfl
  | n + 1, k + 1, i, m, hi, hm, ht, hk => by
    have e := l3Falls_f w ⟨i, by omega⟩ hw k (by omega)
    simp only at e
    rw [spec_l3Table.l0, if_pos (by omega), e, Option.bind_some, if_pos (by omega), w64 _ (by omega)]
    refine l3Table_l0 w hw n k (i + 1) _ (by omega) (by simp [hm]) ?_ (by omega)
    rw [Int.toNat_natCast]
    exact set_range (fallB w) m i hm (by omega) ht
theorem l3Table_f (w : List Int) (hw : okW w = true) (k : Nat) (hk : 200 < k) : spec_l3Table.f k w = some (tb (fallB w)) :=
  l3Table_l0 w hw 64 k 0 _ (by omega) (by simp) (by simp) (by omega)
theorem fallTable_l0 (w : List Int) (hw : okW w = true) : ∀ (n k i : Nat) (m : List Bool), i + n = 64 → m.length = 64 → m.take i = ((List.range i).map fun j => fallB w ((j : Nat) : Int)) → n + 131 < k → impl_fallTable.l0 k w (i : Int) m = some (tb (fallB w))
  | 0, k + 1, i, m, hi, hm, ht, _ => by
    have hi : i = 64 := by omega
    have e : m.take i = m := List.take_of_length_le (by omega)
    rw [e] at ht
    rw [impl_fallTable.l0, if_neg (by omega), ht, hi]; rfl
  | n + 1, k + 1, i, m, hi, hm, ht, hk => by
    have e := falls_f w ⟨i, by omega⟩ hw k (by omega)
    simp only at e
    rw [impl_fallTable.l0, if_pos (by omega), e, Option.bind_some, if_pos (by omega), w64 _ (by omega)]
    refine fallTable_l0 w hw n k (i + 1) _ (by omega) (by simp [hm]) ?_ (by omega)
    rw [Int.toNat_natCast]
    exact set_range (fallB w) m i hm (by omega) ht
theorem fallTable_f (w : List Int) (hw : okW w = true) (k : Nat) (hk : 200 < k) : impl_fallTable.f k w = some (tb (fallB w)) :=
  fallTable_l0 w hw 64 k 0 _ (by omega) (by simp) (by simp) (by omega)
end Go.Proofs.Ytlbhfbanbdahdaa.Q
