/- Windings: what the program and the reference count. Conditions stand in each theorem. -/
import Derived.Test.YtajphpfbihilmaaQV
namespace Go.Proofs.Ytajphpfbihilmaa.Q
open Go.RowKit Go.Proofs.YtajphpfbihilmaaW.PrintWords Go.Proofs.YtajphpfbihilmaaW.PrintLast Go.Proofs.YtajphpfbihilmaaW.PrintMore Go.Proofs.YtajphpfbihilmaaM Go.Proofs.Ytajphpfbihilmaa.K Go.Proofs.Ytajphpfbihilmaa.KL
set_option linter.unusedVariables false
set_option linter.unusedSimpArgs false
theorem w64 (i : Nat) (h : i < 9223372036854775807) : wrap64 ((i : Int) + 1) = ((i + 1 : Nat) : Int) := by
  unfold wrap64; omega
theorem rd_nat (l : List Int) (i : Nat) (h : i < l.length) : rd l (i : Int) = l[i] := by
  simp [rd, h]
def sgn (x : Int) : Int := if x < 0 then -1 else 1
def nl (x : Int) : Nat := x.natAbs - 1
/-- how often a word goes round nail n + 1 -/
def wnd (n : Nat) : List Int → Int
  | [] => 0
  | x :: t => (if nl x = n then sgn x else 0) + wnd n t
theorem wnd_app (n : Nat) : ∀ (a b : List Int), wnd n (a ++ b) = wnd n a + wnd n b
  | [], b => by simp [wnd]
  | x :: a, b => by rw [List.cons_append, wnd, wnd, wnd_app n a b]; omega
theorem wnd_bd (n : Nat) : ∀ (a : List Int), -(a.length : Int) ≤ wnd n a ∧ wnd n a ≤ (a.length : Int)
  | [] => by simp [wnd]
  | x :: a => by
    have := wnd_bd n a
    rw [wnd, List.length_cons]
    unfold sgn
    split <;> (try split) <;> omega
/-- one nail's coefficients -/
def Ones (m : List Int) (f : Nat → Int) : Prop := m.length = 258 ∧ ∀ n, n < 6 → m.getD n 0 = f n
theorem Ones.set {m : List Int} {f : Nat → Int} (h : Ones m f) (i : Nat) (hi : 6 ≤ i) (v : Int) : Ones (m.set i v) f := by
  refine ⟨by simpa using h.1, fun n hn => ?_⟩
  rw [← h.2 n hn, List.getD_eq_getElem?_getD, List.getD_eq_getElem?_getD, List.getElem?_set_ne (by omega)]
theorem ones_l2 (n : Nat) (hn : n < 6) (m1 : List Int) (f : Nat → Int) (d : Nat) : ∀ (k a : Nat) (m3 : List Int), a + d = 6 → d < k → Ones m3 f → ∃ r, spec_l8Behind.l2 k (n : Int) (a : Int) m3 m1 = some r ∧ Ones r f := by
  induction d with
  | zero =>
    intro k a m3 ha hk h
    obtain ⟨k, rfl⟩ : ∃ q, k = q + 1 := ⟨k - 1, by omega⟩
    rw [spec_l8Behind.l2, if_neg (by omega), if_pos (by omega), if_pos (by omega)]
    exact ⟨_, rfl, h.set _ (by omega) _⟩
  | succ d ih =>
    intro k a m3 ha hk h
    obtain ⟨k, rfl⟩ : ∃ q, k = q + 1 := ⟨k - 1, by omega⟩
    rw [spec_l8Behind.l2, if_pos (by omega), if_pos (by omega), if_pos (by omega), if_pos (by omega), w64 a (by omega)]
    exact ih k (a + 1) _ (by omega) (by omega) (h.set _ (by omega) _)
theorem ones_l01 (n : Nat) (hn : n < 6) (x sg : Int) (m1 : List Int) (f : Nat → Int) (d : Nat) : (∀ (k a : Nat) (m3 : List Int), a + d = 6 → 20 * d + 20 < k → Ones m3 f → ∃ r, spec_l8Behind.l0 k x (n : Int) sg (a : Int) m3 m1 = some r ∧ Ones r f) := by
  induction d with
  | zero =>
    intro k a m3 ha hk h
    obtain ⟨k, rfl⟩ : ∃ q, k = q + 1 := ⟨k - 1, by omega⟩
    rw [spec_l8Behind.l0, if_neg (by omega)]
    by_cases hx : x < 0
    · rw [if_pos hx, if_pos (by omega), if_pos (by omega)]
      exact ones_l2 n hn m1 f 6 k 0 _ (by omega) (by omega) (h.set _ (by omega) _)
    · rw [if_neg hx]; exact ⟨_, rfl, h⟩
  | succ d ih =>
    have hl1 : ∀ (e k a b : Nat) (m3 : List Int), a + (d + 1) = 6 → b + e = 6 → 20 * d + 20 + e + 2 < k → Ones m3 f → ∃ r, spec_l8Behind.l1 k x (n : Int) sg (a : Int) (b : Int) m3 m1 = some r ∧ Ones r f := by
      intro e
      induction e with
      | zero =>
        intro k a b m3 ha hb hk h
        obtain ⟨k, rfl⟩ : ∃ q, k = q + 1 := ⟨k - 1, by omega⟩
        rw [spec_l8Behind.l1, if_neg (by omega), w64 a (by omega)]
        exact ih k (a + 1) m3 (by omega) (by omega) h
      | succ e ihe =>
        intro k a b m3 ha hb hk h
        obtain ⟨k, rfl⟩ : ∃ q, k = q + 1 := ⟨k - 1, by omega⟩
        rw [spec_l8Behind.l1, if_pos (by omega), if_pos (by omega), if_pos (by omega), if_pos (by omega), if_pos (by omega), if_pos (by omega), w64 b (by omega)]
        exact ihe k a (b + 1) _ ha (by omega) (by omega) (h.set _ (by omega) _)
    intro k a m3 ha hk h
    obtain ⟨k, rfl⟩ : ∃ q, k = q + 1 := ⟨k - 1, by omega⟩
    rw [spec_l8Behind.l0, if_pos (by omega), if_pos (by omega), if_pos (by omega), if_pos (by omega)]
    exact hl1 6 k a 0 _ ha (by omega) (by omega) (h.set _ (by omega) _)
def letB (x : Int) : Bool := decide (x ≠ 0 ∧ -6 ≤ x ∧ x ≤ 6)
theorem letB_iff (x : Int) : letB x = true ↔ x ≠ 0 ∧ -6 ≤ x ∧ x ≤ 6 := by simp [letB]
def okW (w : List Int) : Bool := decide (w.length ≤ 64) && w.all letB
theorem okW_iff (w : List Int) : okW w = true ↔ w.length ≤ 64 ∧ ∀ x ∈ w, letB x = true := by simp [okW, List.all_eq_true]
theorem isLetter_f (x : Int) : impl_isLetter.f x = some (letB x) := by
  unfold impl_isLetter.f letB
  by_cases h0 : x = 0
  · simp [h0]
  · rw [if_neg h0]
    by_cases h1 : x ≥ -6
    · rw [if_pos h1]; congr 1; rw [Bool.eq_iff_iff]; simp; omega
    · rw [if_neg h1]; congr 1; rw [Bool.eq_iff_iff]; simp; omega
theorem l2Letter_f (x : Int) : spec_l2Letter.f x = some (letB x) := by
  unfold spec_l2Letter.f spec_l1In.f letB
  by_cases h0 : x = 0
  · simp [h0]
  · rw [if_neg h0]
    by_cases h1 : x ≥ -6
    · rw [if_pos h1, Option.bind_some]; congr 1; rw [Bool.eq_iff_iff]; simp; omega
    · rw [if_neg h1, Option.bind_some]; congr 1; rw [Bool.eq_iff_iff]; simp; omega
theorem IndexFunc_any (l : List Int) (g : Int → Option Bool) (p : Int → Bool) (hg : ∀ x ∈ l, g x = some (p x)) (hm : l.length < 9223372036854775807) : ∀ (n k i : Nat), i + n = l.length → n < k → ∃ j, slices_IndexFunc_int_int.l0 k l g (l.length : Int) (i : Int) = some j ∧ decide (j ≥ 0) = (l.drop i).any p
  | 0, k + 1, i, hi, _ => by
    have hi : i = l.length := by omega
    exact ⟨-1, by simp [slices_IndexFunc_int_int.l0, hi], by simp [hi]⟩
  | n + 1, k + 1, i, hi, hk => by
    have h : i < l.length := by omega
    have h' : (i : Int) < (l.length : Int) := by omega
    have hd : l.drop i = l[i] :: l.drop (i + 1) := List.drop_eq_getElem_cons h
    obtain ⟨j, h1, h2⟩ := IndexFunc_any l g p hg hm n k (i + 1) (by omega) (by omega)
    rw [slices_IndexFunc_int_int.l0, if_pos h', if_pos (by omega), if_pos h', rd_nat _ _ h, w64 _ (by omega), hg _ (List.getElem_mem h), h1, hd]
    simp only [Option.bind_some, List.any_cons]
    cases hp : p l[i] with
    | true => exact ⟨(i : Int), by simp, by simp⟩
    | false => exact ⟨j, by simp, by simpa using h2⟩
theorem ContainsFunc_any (l : List Int) (g : Int → Option Bool) (p : Int → Bool) (hg : ∀ x ∈ l, g x = some (p x)) (k : Nat) (hm : l.length < 9223372036854775807) (hk : l.length < k) : slices_ContainsFunc_int_int.f k l g = some (l.any p) := by
  obtain ⟨j, h1, h2⟩ := IndexFunc_any l g p hg hm l.length k 0 (by omega) hk
  simp only [slices_ContainsFunc_int_int.f, slices_IndexFunc_int_int.f]
  have h1' : slices_IndexFunc_int_int.l0 k l g (l.length : Int) 0 = some j := h1
  rw [h1', Option.bind_some, h2, List.drop_zero]
theorem isWord_f (w : List Int) (k : Nat) (hw : w.length < 9223372036854775807) (hk : w.length < k) : impl_isWord.f k w = some (okW w) := by
  unfold impl_isWord.f okW
  by_cases h : (w.length : Int) ≤ 64
  · rw [if_pos h, ContainsFunc_any w _ (fun x => !letB x) (fun x _ => by rw [impl_isWord_1.f, isLetter_f]; rfl) k hw hk, Option.bind_some, ← List.not_all_eq_any_not, Bool.not_not, decide_eq_true (by omega), Bool.true_and]
  · rw [if_neg h, decide_eq_false (by omega), Bool.false_and]
theorem l2Word_l0 (w : List Int) (hw : w.length < 9223372036854775807) : ∀ (n k i : Nat), i + n = w.length → 2 * n + 1 < k → i ≤ 65 → spec_l2Word.l0 k w (i : Int) = some (decide (w.length ≤ 64) && (w.drop i).all letB)
  | 0, k + 2, i, hi, _, _ => by
    have hi : i = w.length := by omega
    have e : decide ((w.length : Int) ≤ 64) = decide (w.length ≤ 64) := by rw [decide_eq_decide]; omega
    rw [spec_l2Word.l0, if_neg (by omega), spec_l2Word.j1, if_neg (by simp), hi, e]
    simp
  | n + 1, k + 2, i, hi, hk, h65 => by
    have h : i < w.length := by omega
    have hd : w.drop i = w[i] :: w.drop (i + 1) := List.drop_eq_getElem_cons h
    rw [spec_l2Word.l0, if_pos (by omega), spec_l2Word.j1]
    by_cases h64 : i ≤ 64
    · rw [if_pos (decide_eq_true (by omega)), if_pos (by omega), if_pos (by omega), rd_nat _ _ h, l2Letter_f, Option.bind_some, w64 _ (by omega), hd]
      simp only [List.all_cons]
      by_cases hl : letB w[i] = true
      · rw [if_pos hl, l2Word_l0 w hw n k (i + 1) (by omega) (by omega) (by omega)]; simp [hl]
      · rw [if_neg hl]; simp [hl]
    · rw [if_neg (by simp; omega)]
      have h1 : ¬ w.length ≤ 64 := by omega
      have h2 : ¬ (w.length : Int) ≤ 64 := by omega
      rw [decide_eq_false h1, decide_eq_false h2]; rfl
theorem l2Word_f (w : List Int) (k : Nat) (hw : w.length < 9223372036854775807) (hk : 2 * w.length + 1 < k) : spec_l2Word.f k w = some (okW w) := by
  have : spec_l2Word.f k w = _ := l2Word_l0 w hw w.length k 0 (by omega) hk (by omega)
  rw [this, List.drop_zero]; rfl

/-! reducing, as the code does it -/
theorem nail_w (x : Int) (hx : letB x = true) : spec_l2Nail.f x = some ((nl x + 1 : Nat) : Int) ∧ nl x < 6 := by
  rw [letB_iff] at hx
  have e : wrap64 (-x) = -x := by unfold wrap64; omega
  unfold spec_l2Nail.f spec_l1Most.f nl
  rw [e]
  refine ⟨?_, by omega⟩
  by_cases h : x > -x
  · rw [if_pos h, Option.bind_some]; congr 1; omega
  · rw [if_neg h, Option.bind_some]; congr 1; omega
theorem behind_ones (x : Int) (hx : letB x = true) (m : List Int) (f : Nat → Int) (h : Ones m f) (hb : ∀ n, n < 6 → -1000 ≤ f n ∧ f n ≤ 1000) (k : Nat) (hk : 200 < k) :
    ∃ r, spec_l8Behind.f k m x = some r ∧ Ones r (fun n => f n + if nl x = n then sgn x else 0) := by
  obtain ⟨h1, h6⟩ := nail_w x hx
  have e1 : wrap64 (((nl x + 1 : Nat) : Int) - 1) = ((nl x : Nat) : Int) := by unfold wrap64; omega
  have hbn := hb (nl x) h6
  have hlen := h.1
  have hs : ∀ v, v = sgn x → Ones (m.set ((nl x : Nat) : Int).toNat (wrap64 (m.getD ((nl x : Nat) : Int).toNat 0 + v))) (fun n => f n + if nl x = n then sgn x else 0) := by
    intro v hv
    have hv2 : v = 1 ∨ v = -1 := by rw [hv]; unfold sgn; split <;> simp
    refine ⟨by simpa using h.1, fun n hn => ?_⟩
    simp only [Int.toNat_natCast]
    rw [h.2 (nl x) h6]
    have ew : wrap64 (f (nl x) + v) = f (nl x) + v := by unfold wrap64; omega
    rw [ew]
    by_cases hn2 : nl x = n
    · subst hn2
      rw [if_pos rfl, ← hv, List.getD_eq_getElem?_getD, List.getElem?_set_self (by omega)]
      rfl
    · rw [if_neg hn2, List.getD_eq_getElem?_getD, List.getElem?_set_ne hn2, ← List.getD_eq_getElem?_getD, h.2 n hn]
      omega
  rw [spec_l8Behind.f, h1, Option.bind_some, e1]
  have c0 : (0 : Int) ≤ ((nl x : Nat) : Int) := Int.natCast_nonneg _
  have c6 : ((nl x : Nat) : Int) < 6 := by omega
  by_cases hx0 : x < 0
  · rw [if_pos hx0, if_pos c0, if_pos c6]
    exact ones_l01 (nl x) h6 x (-1) m _ 6 k 0 _ (by omega) (by omega) (hs (-1) (by unfold sgn; rw [if_pos hx0]))
  · rw [if_neg hx0, if_pos c0, if_pos c6]
    exact ones_l01 (nl x) h6 x 1 m _ 6 k 0 _ (by omega) (by omega) (hs 1 (by unfold sgn; rw [if_neg hx0]))
theorem l8Of_l0 (w : List Int) (hw : w.length ≤ 64) (hl : ∀ x ∈ w, letB x = true) (d : Nat) : ∀ (k i : Nat) (m : List Int), i + d = w.length → d + 300 < k → Ones m (fun n => wnd n (w.take i)) → ∃ r, spec_l8Of.l0 k w (i : Int) m = some r ∧ Ones r (fun n => wnd n w) := by
  induction d with
  | zero =>
    intro k i m hi hk h
    obtain ⟨k, rfl⟩ : ∃ q, k = q + 1 := ⟨k - 1, by omega⟩
    rw [spec_l8Of.l0, if_neg (by omega)]
    rw [List.take_of_length_le (by omega)] at h
    exact ⟨_, rfl, h⟩
  | succ d ih =>
    intro k i m hi hk h
    obtain ⟨k, rfl⟩ : ∃ q, k = q + 1 := ⟨k - 1, by omega⟩
    have hil : i < w.length := by omega
    obtain ⟨r, h1, h2⟩ := behind_ones w[i] (hl _ (List.getElem_mem hil)) m _ h (fun n _ => by
      have := wnd_bd n (w.take i)
      have hlen : (w.take i).length ≤ 64 := by rw [List.length_take]; omega
      omega) k (by omega)
    rw [spec_l8Of.l0, if_pos (by omega), if_pos (by omega), rd_nat _ _ hil, h1, Option.bind_some, w64 i (by omega)]
    refine ih k (i + 1) r (by omega) (by omega) ⟨h2.1, fun n hn => ?_⟩
    rw [h2.2 n hn, ← List.take_append_getElem hil]
    show wnd n (List.take i w) + (if nl w[i] = n then sgn w[i] else 0) = wnd n (List.take i w ++ [w[i]])
    rw [wnd_app, wnd, wnd]
    omega
theorem l8Of_f (w : List Int) (hw : w.length ≤ 64) (hl : ∀ x ∈ w, letB x = true) (k : Nat) (hk : 400 < k) : ∃ r, spec_l8Of.f k w = some r ∧ Ones r (fun n => wnd n w) := by
  refine l8Of_l0 w hw hl w.length k 0 _ (by omega) (by omega) ⟨List.length_replicate, fun n hn => ?_⟩
  show (List.replicate 258 (0 : Int)).getD n 0 = wnd n (List.take 0 w)
  rw [List.take_zero, wnd, List.getD_eq_getElem?_getD, List.getElem?_replicate, if_pos (by omega)]
  rfl
def win (w : List Int) : List Int := [0, wnd 0 w, wnd 1 w, wnd 2 w, wnd 3 w, wnd 4 w, wnd 5 w]
theorem win_ext (w r : List Int) (hl : r.length = 7) (h0 : r.getD 0 0 = 0) (h : ∀ n, n < 6 → r.getD (n + 1) 0 = wnd n w) : r = win w := by
  match r, hl with
  | [a, b, c, d, e, f, g], _ =>
    have h1 := h 0 (by omega)
    have h2 := h 1 (by omega)
    have h3 := h 2 (by omega)
    have h4 := h 3 (by omega)
    have h5 := h 4 (by omega)
    have h6 := h 5 (by omega)
    simp at h0 h1 h2 h3 h4 h5 h6
    subst h0 h1 h2 h3 h4 h5 h6
    rfl
theorem getD_set (m : List Int) (i j : Nat) (v : Int) (h : i < m.length) : (m.set i v).getD j 0 = if i = j then v else m.getD j 0 := by
  rw [List.getD_eq_getElem?_getD, List.getElem?_set]
  by_cases hij : i = j
  · rw [if_pos hij, if_pos hij, if_pos h]; rfl
  · rw [if_neg hij, if_neg hij, ← List.getD_eq_getElem?_getD]
theorem rd_getD (m : List Int) (n : Nat) : rd m (n : Int) = m.getD n 0 := by
  unfold rd; simp
theorem impl_win_l0 (w : List Int) (hw : w.length ≤ 64) (hl : ∀ x ∈ w, letB x = true) (d : Nat) : ∀ (k i : Nat) (m : List Int), i + d = w.length → d < k → m.length = 7 → m.getD 0 0 = 0 → (∀ n, n < 6 → m.getD (n + 1) 0 = wnd n (w.take i)) →
    impl_WindingsOf.l0 k w (w.length : Int) (i : Int) m = some (win w, true) := by
  induction d with
  | zero =>
    intro k i m hi hk hm h0 h
    obtain ⟨k, rfl⟩ : ∃ q, k = q + 1 := ⟨k - 1, by omega⟩
    rw [List.take_of_length_le (by omega)] at h
    rw [impl_WindingsOf.l0, if_neg (by omega), win_ext w m hm h0 h]
  | succ d ih =>
    intro k i m hi hk hm h0 h
    obtain ⟨k, rfl⟩ : ∃ q, k = q + 1 := ⟨k - 1, by omega⟩
    have hil : i < w.length := by omega
    have a1 : ((i : Nat) : Int) < (w.length : Int) := by omega
    have a2 : (0 : Int) ≤ ((i : Nat) : Int) := by omega
    have a3 : i + 1 + d = w.length := by omega
    have a4 : d < k := by omega
    have ei := w64 i (by omega)
    have hx := hl _ (List.getElem_mem hil)
    obtain ⟨_, h6⟩ := nail_w _ hx
    have hx2 := (letB_iff _).1 hx
    have hbd := wnd_bd (nl w[i]) (w.take i)
    have hlen : (w.take i).length ≤ 64 := by rw [List.length_take]; omega
    have hget := h (nl w[i]) h6
    have hnext : ∀ v, v = wnd (nl w[i]) (w.take i) + sgn w[i] → impl_WindingsOf.l0 k w (w.length : Int) ((i + 1 : Nat) : Int) (m.set (nl w[i] + 1) v) = some (win w, true) := by
      intro v hv
      refine ih k (i + 1) _ a3 a4 (by simpa using hm) ?_ (fun n hn => ?_)
      · rw [getD_set _ _ _ _ (by omega), if_neg (by omega), h0]
      · rw [getD_set _ _ _ _ (by omega), ← List.take_append_getElem hil, wnd_app, wnd, wnd]
        by_cases hn2 : nl w[i] = n
        · subst hn2
          rw [if_pos rfl, if_pos rfl, hv]; omega
        · rw [if_neg (by omega), if_neg hn2, h n hn]; omega
    rw [impl_WindingsOf.l0, if_pos a1, if_pos a2, if_pos a1, rd_nat _ _ hil, ei]
    by_cases hp : w[i] > 0
    · have e : w[i] = ((nl w[i] + 1 : Nat) : Int) := by unfold nl; omega
      have hs : sgn w[i] = 1 := by unfold sgn; rw [if_neg (by omega)]
      rw [if_pos hp, if_pos (by omega), if_pos (by omega), show rd m w[i] = wnd (nl w[i]) (w.take i) from by rw [← hget, ← rd_getD, ← e], show w[i].toNat = nl w[i] + 1 from by unfold nl; omega]
      have ew : wrap64 (wnd (nl w[i]) (w.take i) + 1) = wnd (nl w[i]) (w.take i) + 1 := by unfold wrap64; omega
      rw [ew]
      exact hnext _ (by rw [hs])
    · have e : -w[i] = ((nl w[i] + 1 : Nat) : Int) := by unfold nl; omega
      have hs : sgn w[i] = -1 := by unfold sgn; rw [if_pos (by omega)]
      have en : wrap64 (-w[i]) = -w[i] := by unfold wrap64; omega
      rw [if_neg hp, en, if_pos (by omega), if_pos (by omega), show rd m (-w[i]) = wnd (nl w[i]) (w.take i) from by rw [← hget, ← rd_getD, ← e], show (-w[i]).toNat = nl w[i] + 1 from by unfold nl; omega]
      have ew : wrap64 (wnd (nl w[i]) (w.take i) - 1) = wnd (nl w[i]) (w.take i) - 1 := by unfold wrap64; omega
      rw [ew]
      exact hnext _ (by rw [hs]; omega)
theorem spec_win_l0 (w m3 : List Int) (h3 : Ones m3 (fun n => wnd n w)) (d : Nat) : ∀ (k i : Nat) (m : List Int), i + d = 6 → d < k → m.length = 7 → m.getD 0 0 = 0 → (∀ n, n < i → m.getD (n + 1) 0 = wnd n w) → spec_WindingsOf.l0 k (i : Int) m3 m = some (win w, true) := by
  induction d with
  | zero =>
    intro k i m hi hk hm h0 h
    obtain ⟨k, rfl⟩ : ∃ q, k = q + 1 := ⟨k - 1, by omega⟩
    rw [spec_WindingsOf.l0, if_neg (by omega), win_ext w m hm h0 (fun n hn => h n (by omega))]
  | succ d ih =>
    intro k i m hi hk hm h0 h
    obtain ⟨k, rfl⟩ : ∃ q, k = q + 1 := ⟨k - 1, by omega⟩
    rw [spec_WindingsOf.l0, if_pos (by omega), if_pos (by omega), w64 i (by omega), if_pos (by omega), if_pos (by omega), Int.toNat_natCast, Int.toNat_natCast, h3.2 i (by omega)]
    refine ih k (i + 1) _ (by omega) (by omega) (by simpa using hm) ?_ (fun n hn => ?_)
    · rw [getD_set _ _ _ _ (by omega), if_neg (by omega), h0]
    · rw [getD_set _ _ _ _ (by omega)]
      by_cases hn2 : i = n
      · subst hn2; rw [if_pos rfl]
      · rw [if_neg (by omega), h n (by omega)]
theorem rep7 (n : Nat) : (List.replicate 7 (0 : Int)).getD n 0 = 0 := by
  rw [List.getD_eq_getElem?_getD, List.getElem?_replicate]; split <;> rfl
theorem windings_is (w : List Int) (hw : w.length < 1000000000) (k : Nat) (hk : 2 * w.length + 600 < k) (r : List Int × Bool) (hr : r = if okW w = true then (win w, true) else (List.replicate 7 0, false)) :
    impl_WindingsOf.f k w = some r ∧ spec_WindingsOf.f k w = some r := by
  rw [impl_WindingsOf.f, spec_WindingsOf.f, isWord_f w k (by omega) (by omega), l2Word_f w k (by omega) (by omega), Option.bind_some, Option.bind_some, hr]
  by_cases hok : okW w = true
  · obtain ⟨h64, hl⟩ := (okW_iff w).1 hok
    obtain ⟨m3, h1, h2⟩ := l8Of_f w h64 hl k (by omega)
    rw [if_pos hok, if_pos hok, if_pos hok, h1, Option.bind_some]
    exact ⟨impl_win_l0 w h64 hl w.length k 0 _ (by omega) (by omega) (by simp) (rep7 0) (fun n _ => by rw [rep7, List.take_zero, wnd]), spec_win_l0 w m3 h2 6 k 0 _ (by omega) (by omega) (by simp) (rep7 0) (fun n hn => by omega)⟩
  · rw [if_neg hok, if_neg hok, if_neg hok]; exact ⟨rfl, rfl⟩
theorem take6 (m : List Int) (f : Nat → Int) (h : Ones m f) : (m.drop 0).take 6 = [f 0, f 1, f 2, f 3, f 4, f 5] := by
  rw [List.drop_zero]
  have hl : (m.take 6).length = 6 := by rw [List.length_take, h.1]; rfl
  have hg : ∀ n, n < 6 → (m.take 6).getD n 0 = f n := fun n hn => by
    rw [← h.2 n hn, List.getD_eq_getElem?_getD, List.getD_eq_getElem?_getD, List.getElem?_take_of_lt hn]
  generalize m.take 6 = z at hl hg
  match z, hl with
  | [a, b, c, d, e, g], _ =>
    have h1 := hg 0 (by omega)
    have h2 := hg 1 (by omega)
    have h3 := hg 2 (by omega)
    have h4 := hg 3 (by omega)
    have h5 := hg 4 (by omega)
    have h6 := hg 5 (by omega)
    simp at h1 h2 h3 h4 h5 h6
    subst h1 h2 h3 h4 h5 h6
    rfl
theorem balanced_is (w : List Int) (hw : w.length < 1000000000) (k : Nat) (hk : 2 * w.length + 600 < k) (r : Bool × Bool) (hr : r = if okW w = true then (win w == List.replicate 7 0, true) else (false, false)) :
    impl_IsBalancedLoop.f k w = some r ∧ spec_IsBalancedLoop.f k w = some r := by
  have hi := (windings_is w hw k hk _ rfl).1
  rw [impl_IsBalancedLoop.f, hi, spec_IsBalancedLoop.f, l2Word_f w k (by omega) (by omega), Option.bind_some, Option.bind_some, hr]
  by_cases hok : okW w = true
  · obtain ⟨h64, hl⟩ := (okW_iff w).1 hok
    obtain ⟨m3, h1, h2⟩ := l8Of_f w h64 hl k (by omega)
    rw [if_pos hok, if_pos hok, if_pos hok, h1, Option.bind_some, take6 m3 _ h2]
    refine ⟨rfl, ?_⟩
    congr 2
    first | done | (rw [Bool.eq_iff_iff]; first | done | simp [win, List.replicate])
  · rw [if_neg hok, if_neg hok, if_neg hok]; exact ⟨rfl, rfl⟩
end Go.Proofs.Ytajphpfbihilmaa.Q
