/- The program's NextWord and the reference's agree. -/
import Derived.Test.YtnpgegfffklcpaaPFnExactNextWordx5
import Derived.Test.YtnpgegfffklcpaaRK
namespace Go.Proofs.Ytnpgegfffklcpaa.PFnExactNextWord
open Go.RowKit Go.Proofs.YtnpgegfffklcpaaW.PrintWords Go.Proofs.YtnpgegfffklcpaaW.PrintLast
set_option linter.unusedVariables false
set_option linter.unusedSimpArgs false
set_option linter.unusedSectionVars false
theorem w64 (i : Nat) (h : i < 9223372036854775807) : wrap64 ((i : Int) + 1) = ((i + 1 : Nat) : Int) := by
  unfold wrap64; omega
theorem rd_nat (l : List Int) (i : Nat) (h : i < l.length) : rd l (i : Int) = l[i] := by
  simp [rd, h]
/-- marks one after the other -/
def marks : Int → Nat → List Int
  | _, 0 => []
  | m, n + 1 => m :: marks (m + 1) n
theorem marks_len : ∀ (n : Nat) (m : Int), (marks m n).length = n
  | 0, _ => rfl
  | n + 1, m => by simp [marks, marks_len n]
theorem bindS {α β : Type} {o : Option α} {a : α} {f : α → Option β} {r : Option β} (h : o = some a) (h2 : f a = r) : o.bind f = r := by
  rw [h]; exact h2
theorem toIntS_l0 (l : List Int) (hl : l.length < 9223372036854775807) : ∀ (n k i : Nat), i + n = l.length → n < k → laws_toIntS.l0 k l (l.take i ++ List.replicate n 0) (i : Int) = some l
  | 0, k + 1, i, hi, _ => by
    have hi : i = l.length := by omega
    simp [laws_toIntS.l0, hi]
  | n + 1, k + 1, i, hi, hk => by
    have h : i < l.length := by omega
    have e : (l.take i ++ List.replicate (n + 1) (0 : Int)).set i l[i] = l.take (i + 1) ++ List.replicate n 0 := by
      have e2 : ∀ X : List Int, l.take (i + 1) ++ X = l.take i ++ (l[i] :: X) := fun X => by rw [← List.take_append_getElem h, List.append_assoc]; rfl
      rw [List.set_append_right _ _ (by simp; omega), e2, List.replicate_succ]
      simp [Nat.min_eq_left (Nat.le_of_lt h)]
    rw [laws_toIntS.l0, if_pos (by omega), if_pos (by omega), if_pos (by simp; omega), rd_nat _ _ h, w64 _ (by omega), Int.toNat_natCast, e]
    exact toIntS_l0 l hl n k (i + 1) (by omega) (by omega)
theorem toIntS_f (l : List Int) (k : Nat) (hl : l.length ≤ 35184372088832) (hk : l.length < k) : laws_toIntS.f k l = some l := by
  have := toIntS_l0 l (by omega) l.length k 0 (by omega) hk
  rw [laws_toIntS.f, if_pos (by omega), Int.toNat_natCast, if_pos hl]
  simpa using this
theorem eqIntS_l0 (l : List Int) (hl : l.length < 9223372036854775807) : ∀ (n k i : Nat), i + n = l.length → n < k → laws_eqIntS.l0 k l l (i : Int) = some true
  | 0, k + 1, i, hi, _ => by
    have hi : i = l.length := by omega
    simp [laws_eqIntS.l0, hi]
  | n + 1, k + 1, i, hi, hk => by
    rw [laws_eqIntS.l0, if_pos (by omega), if_pos (by omega), if_pos (by omega), if_pos rfl, w64 _ (by omega)]
    exact eqIntS_l0 l hl n k (i + 1) (by omega) (by omega)
theorem eqIntS_f (l : List Int) (k : Nat) (hl : l.length ≤ 35184372088832) (hk : l.length < k) : laws_eqIntS.f k l l = some true := by
  rw [laws_eqIntS.f, if_pos rfl]
  exact eqIntS_l0 l (by omega) l.length k 0 (by omega) hk
theorem markIntS_l0 : ∀ (n k i : Nat) (l : List Int) (m : Int), l.length < 9223372036854775807 → i + n = l.length → n < k → 0 ≤ m → m + n < 9223372036854775807 → laws_markIntS.l0 k l m (i : Int) = some (m + n, l.take i ++ marks m n)
  | 0, k + 1, i, l, m, hl, hi, _, h0, hm => by
    have hi : i = l.length := by omega
    simp [laws_markIntS.l0, hi, marks]
  | n + 1, k + 1, i, l, m, hl, hi, hk, h0, hm => by
    have h : i < l.length := by omega
    have em : wrap64 (m + 1) = m + 1 := by unfold wrap64; omega
    rw [laws_markIntS.l0, if_pos (by omega), if_pos (by omega), w64 _ (by omega), Int.toNat_natCast, em, markIntS_l0 n k (i + 1) (l.set i m) (m + 1) (by simpa using hl) (by simp; omega) (by omega) (by omega) (by omega)]
    rw [List.take_add_one, List.take_set_of_le (Nat.le_refl _)]
    simp [h, marks]
    omega
theorem markIntS_f (l : List Int) (m : Int) (k : Nat) (hl : l.length ≤ 35184372088832) (hk : l.length < k) (h0 : 0 ≤ m) (hm : m ≤ 9000000000000000000) : laws_markIntS.f k l m = some (m + l.length, marks m l.length) := by
  have := markIntS_l0 l.length k 0 l m (by omega) (by omega) hk h0 (by omega)
  simpa [laws_markIntS.f] using this
theorem heldIntS_l0 (L : List Int) (hl : L.length < 9223372036854775807) : ∀ (n k i : Nat) (m : Int), L.drop i = marks m n → i + n = L.length → n < k → 0 ≤ m → m + n < 9223372036854775807 → laws_heldIntS.l0 k L m (i : Int) = some (m + n)
  | 0, k + 1, i, m, hd, hi, _, h0, hm => by
    have hi : i = L.length := by omega
    simp [laws_heldIntS.l0, hi]
  | n + 1, k + 1, i, m, hd, hi, hk, h0, hm => by
    have h : i < L.length := by omega
    have em : wrap64 (m + 1) = m + 1 := by unfold wrap64; omega
    rw [List.drop_eq_getElem_cons h, marks, List.cons.injEq] at hd
    rw [laws_heldIntS.l0, if_pos (by omega), if_pos (by omega), rd_nat _ _ h, if_pos hd.1, w64 _ (by omega), em, heldIntS_l0 L hl n k (i + 1) (m + 1) hd.2 (by omega) (by omega) (by omega) (by omega)]
    congr 1; omega
theorem heldIntS_f (m : Int) (n k : Nat) (hl : n ≤ 35184372088832) (hk : n < k) (h0 : 0 ≤ m) (hm : m ≤ 9000000000000000000) : laws_heldIntS.f k (marks m n) m = some (m + n) := by
  have := heldIntS_l0 (marks m n) (by rw [marks_len]; omega) n k 0 m (by simp) (by rw [marks_len]; omega) hk h0 (by omega)
  simpa [laws_heldIntS.f] using this
theorem l7Nails_f (n : Int) : spec_l7Nails.f n = some (decide (1 ≤ n ∧ n ≤ 6)) := by
  unfold spec_l7Nails.f spec_l1In.f
  by_cases h : n ≥ 1
  · rw [if_pos h, Option.bind_some]; congr 1; rw [Bool.eq_iff_iff]; simp; omega
  · rw [if_neg h, Option.bind_some]; congr 1; rw [Bool.eq_iff_iff]; simp; omega
theorem l2Letter_f (x : Int) : spec_l2Letter.f x = some (Q.letB x) := by
  unfold spec_l2Letter.f spec_l1In.f Q.letB
  by_cases h0 : x = 0
  · simp [h0]
  · rw [if_neg h0]
    by_cases h1 : x ≥ -6
    · rw [if_pos h1, Option.bind_some]; congr 1; rw [Bool.eq_iff_iff]; simp; omega
    · rw [if_neg h1, Option.bind_some]; congr 1; rw [Bool.eq_iff_iff]; simp; omega
theorem l2Word_l0 (w : List Int) (hw : w.length < 9223372036854775807) : ∀ (n k i : Nat), i + n = w.length → 2 * n + 1 < k → i ≤ 65 → spec_l2Word.l0 k w (i : Int) = some (decide (w.length ≤ 64) && (w.drop i).all Q.letB)
  | 0, k + 2, i, hi, _, _ => by
    have hi : i = w.length := by omega
    have e : decide ((w.length : Int) ≤ 64) = decide (w.length ≤ 64) := by rw [decide_eq_decide]; omega
    rw [spec_l2Word.l0, if_neg (by omega), spec_l2Word.j1, if_neg (by simp), hi, e]
    simp
  | n + 1, k + 2, i, hi, hk, h65 => by
    have h : i < w.length := by omega
    have hd : w.drop i = w[i] :: w.drop (i + 1) := List.drop_eq_getElem_cons h
    rw [spec_l2Word.l0, if_pos (by omega), spec_l2Word.j1]
    by_cases h64 : i ≤ 64
    · rw [if_pos (decide_eq_true (by omega)), if_pos (by omega), if_pos (by omega), rd_nat _ _ h, l2Letter_f, Option.bind_some, w64 _ (by omega), hd]
      simp only [List.all_cons]
      by_cases hl : Q.letB w[i] = true
      · rw [if_pos hl, l2Word_l0 w hw n k (i + 1) (by omega) (by omega) (by omega)]; simp [hl]
      · rw [if_neg hl]; simp [hl]
    · rw [if_neg (by simp; omega)]
      have h1 : ¬ w.length ≤ 64 := by omega
      have h2 : ¬ (w.length : Int) ≤ 64 := by omega
      rw [decide_eq_false h1, decide_eq_false h2]; rfl
theorem l2Word_f (w : List Int) (k : Nat) (hw : w.length < 9223372036854775807) (hk : 2 * w.length + 1 < k) : spec_l2Word.f k w = some (Q.okW w) := by
  have : spec_l2Word.f k w = _ := l2Word_l0 w hw w.length k 0 (by omega) hk (by omega)
  rw [this, List.drop_zero]; rfl
theorem w64m (i : Nat) (h0 : 0 < i) (h : i < 9223372036854775807) : wrap64 ((i : Int) - 1) = ((i - 1 : Nat) : Int) := by unfold wrap64; omega
theorem l2Reduced_l0 (w : List Int) (hw : w.length < 1000000) (hl : ∀ x ∈ w, Q.letB x = true) : ∀ (n k i : Nat), i + n = w.length → 0 < i → n < k → spec_l2Reduced.l0 k w (i : Int) = some (Q.apartB (w.drop (i - 1)))
  | 0, k + 1, i, hi, h0, _ => by
    have hi' : i = w.length := by omega
    have hd : w.drop (i - 1) = [w[i - 1]] := by rw [List.drop_eq_getElem_cons (by omega), List.drop_eq_nil_of_le (by omega)]
    rw [spec_l2Reduced.l0, if_neg (by omega), hd]; rfl
  | n + 1, k + 1, i, hi, h0, hk => by
    have h : i < w.length := by omega
    have hd : w.drop (i - 1) = w[i - 1] :: w[i] :: w.drop (i + 1) := by
      rw [List.drop_eq_getElem_cons (by omega)]
      have : i - 1 + 1 = i := by omega
      rw [this, List.drop_eq_getElem_cons h]
    have hd2 : w.drop (i + 1 - 1) = w[i] :: w.drop (i + 1) := by rw [Nat.add_sub_cancel, List.drop_eq_getElem_cons h]
    rw [spec_l2Reduced.l0, if_pos (by omega), if_pos (by omega), w64m i h0 (by omega), if_pos (by omega), if_pos (by omega), rd_nat _ _ h, rd_nat _ _ (by omega), Q.wneg _ (hl _ (List.getElem_mem _)), w64 _ (by omega),
      l2Reduced_l0 w hw hl n k (i + 1) (by omega) (by omega) (by omega), hd2, hd]
    by_cases e : w[i] = -w[i - 1]
    · rw [if_pos e]; simp [Q.apartB, e]
    · rw [if_neg e]; simp [Q.apartB, e]
theorem l2Reduced_f (w : List Int) (hw : w.length < 1000000) (hl : ∀ x ∈ w, Q.letB x = true) (k : Nat) (hk : w.length < k) : spec_l2Reduced.f k w = some (Q.apartB w) := by
  cases w with
  | nil =>
    obtain ⟨k, rfl⟩ : ∃ j, k = j + 1 := ⟨k - 1, by simp at hk; omega⟩
    rfl
  | cons a t =>
    have := l2Reduced_l0 (a :: t) hw hl t.length k 1 (by simp; omega) (by omega) (by simp at hk; omega)
    exact this
theorem nailOr : ∀ s : Fin 64, ∀ i : Fin 13, ∀ n : Fin 6, Q.letB ((i.val : Int) - 6) = true →
    ∃ t : Fin 64, ((spec_l2Nail.f ((i.val : Int) - 6)).bind fun m => if 0 ≤ wrap64 (m - 1) then some (Go.bits .or .i64 ((s.val : Nat) : Int) (shl .i64 1 (wrap64 (m - 1)))) else none) = some ((t.val : Nat) : Int) ∧
      (shr .i64 ((t.val : Nat) : Int) ((n.val : Int) + 1) == 0) = ((shr .i64 ((s.val : Nat) : Int) ((n.val : Int) + 1) == 0) && decide (((((i.val : Int) - 6).natAbs : Nat) : Int) ≤ (n.val : Int) + 1)) := by
  intro s i n h
  revert h
  have key : ∀ s : Fin 64, ∀ i : Fin 13, ∀ n : Fin 6, Q.letB ((i.val : Int) - 6) = true →
    (match ((spec_l2Nail.f ((i.val : Int) - 6)).bind fun m => if 0 ≤ wrap64 (m - 1) then some (Go.bits .or .i64 ((s.val : Nat) : Int) (shl .i64 1 (wrap64 (m - 1)))) else none) with
      | none => false
      | some t => decide (0 ≤ t) && decide (t < 64) && ((shr .i64 t ((n.val : Int) + 1) == 0) == ((shr .i64 ((s.val : Nat) : Int) ((n.val : Int) + 1) == 0) && decide (((((i.val : Int) - 6).natAbs : Nat) : Int) ≤ (n.val : Int) + 1)))) = true := by decide +kernel
  intro h
  have hk := key s i n h
  revert hk
  cases hq : ((spec_l2Nail.f ((i.val : Int) - 6)).bind fun m => if 0 ≤ wrap64 (m - 1) then some (Go.bits .or .i64 ((s.val : Nat) : Int) (shl .i64 1 (wrap64 (m - 1)))) else none) with
  | none => intro hk; cases hk
  | some t =>
    intro hk
    simp only [Bool.and_eq_true, decide_eq_true_eq, beq_iff_eq] at hk
    obtain ⟨⟨h1, h2⟩, h3⟩ := hk
    refine ⟨⟨t.toNat, by omega⟩, ?_, ?_⟩
    · simp only; rw [Int.toNat_of_nonneg h1]
    · simp only; rw [Int.toNat_of_nonneg h1]; exact h3
theorem l2Nails_l0 (w : List Int) (hw : w.length < 1000000) (hl : ∀ x ∈ w, Q.letB x = true) (n : Fin 6) : ∀ (d k i : Nat) (s : Fin 64), i + d = w.length → d < k →
    ∃ t : Fin 64, spec_l2Nails.l0 k w ((s.val : Nat) : Int) (i : Int) = some ((t.val : Nat) : Int) ∧ (shr .i64 ((t.val : Nat) : Int) ((n.val : Int) + 1) == 0) = ((shr .i64 ((s.val : Nat) : Int) ((n.val : Int) + 1) == 0) && (w.drop i).all fun x => decide ((x.natAbs : Int) ≤ (n.val : Int) + 1))
  | 0, k + 1, i, s, hi, _ => by
    have hi' : i = w.length := by omega
    exact ⟨s, by rw [spec_l2Nails.l0, if_neg (by omega)], by simp [hi']⟩
  | d + 1, k + 1, i, s, hi, hk => by
    have h : i < w.length := by omega
    have hd : w.drop i = w[i] :: w.drop (i + 1) := List.drop_eq_getElem_cons h
    have hx := hl _ (List.getElem_mem h)
    have h13 := (Q.letB_iff _).1 hx
    have e13 : (((w[i] + 6).toNat : Nat) : Int) - 6 = w[i] := by omega
    obtain ⟨t, h1, h2⟩ := nailOr s ⟨(w[i] + 6).toNat, by omega⟩ n (by simp only [e13]; exact hx)
    simp only [e13] at h1 h2
    obtain ⟨m, hm, h1⟩ := Option.bind_eq_some_iff.1 h1
    obtain ⟨u, h3, h4⟩ := l2Nails_l0 w hw hl n d k (i + 1) t (by omega) (by omega)
    by_cases h0 : 0 ≤ wrap64 (m - 1)
    · rw [if_pos h0] at h1
      refine ⟨u, ?_, ?_⟩
      · rw [spec_l2Nails.l0, if_pos (by omega), if_pos (by omega), rd_nat _ _ h, hm, Option.bind_some, if_pos h0, Option.some.inj h1, w64 _ (by omega), h3]
      · rw [h4, h2, hd, List.all_cons, Bool.and_assoc]
    · rw [if_neg h0] at h1; cases h1
theorem l7Word_f (w : List Int) (n : Int) (hw : w.length < 9223372036854775807) (k : Nat) (hk : 2 * w.length + 100 < k) : spec_l7Word.f k w n = some (Q.overB w n) := by
  rw [spec_l7Word.f, l7Nails_f, Option.bind_some, Q.overB]
  by_cases hn : 1 ≤ n ∧ n ≤ 6
  · rw [if_pos (decide_eq_true hn), l2Word_f w k hw (by omega), Option.bind_some, decide_eq_true hn, Bool.true_and]
    by_cases ho : Q.okW w = true
    · obtain ⟨h1, h2⟩ := (Q.okW_iff w).1 ho
      rw [if_pos ho, l2Reduced_f w (by omega) h2 k (by omega), Option.bind_some, ho, Bool.true_and]
      by_cases ha : Q.apartB w = true
      · obtain ⟨t, h3, h4⟩ := l2Nails_l0 w (by omega) h2 ⟨(n - 1).toNat, by omega⟩ w.length k 0 0 (by omega) (by omega)
        have en : (((n - 1).toNat : Nat) : Int) + 1 = n := by omega
        simp only [en] at h4
        have h3' : spec_l2Nails.f k w = some ((t.val : Nat) : Int) := h3
        rw [if_pos ha, h3', Option.bind_some, if_pos (by omega), h4, ha, Bool.true_and, List.drop_zero]
        have e0 : ∀ m : Fin 6, (shr .i64 (((0 : Fin 64).val : Nat) : Int) ((m.val : Int) + 1) == 0) = true := by decide +kernel
        have := e0 ⟨(n - 1).toNat, by omega⟩
        simp only [en] at this
        rw [this, Bool.true_and]
      · rw [if_neg ha]
        have : Q.apartB w = false := by simpa using ha
        rw [this, Bool.false_and]
    · rw [if_neg ho]
      have : Q.okW w = false := by simpa using ho
      rw [this, Bool.false_and]
  · rw [if_neg (by simpa using hn), decide_eq_false hn, Bool.false_and]
/-! letters in their order -/
def codeN (x : Int) : Nat := if x > 0 then (2 * x - 2).toNat else (-2 * x - 1).toNat
def lett (k : Nat) : Int := if k % 2 = 0 then ((k / 2 : Nat) : Int) + 1 else -(((k / 2 : Nat) : Int) + 1)
theorem le_mono {α : Type} {f : Nat → Option α} (h : ∀ k, LeO (f k) (f (k + 1))) {r : α} {a : Nat} (ha : f a = some r) : ∀ d, f (a + d) = some r
  | 0 => ha
  | d + 1 => h (a + d) r (le_mono h ha d)
theorem code_f (x : Int) (hx : Q.letB x = true) : spec_l2Code.f x = some ((codeN x : Nat) : Int) := by
  have hl := (Q.letB_iff x).1 hx
  unfold spec_l2Code.f codeN
  by_cases h : x > 0
  · rw [if_pos h, if_pos h]; congr 1; unfold wrap64; omega
  · rw [if_neg h, if_neg h]; congr 1; unfold wrap64; omega
theorem letter_all : ∀ k : Fin 12, spec_l7Letter.f ((k.val : Nat) : Int) = some (lett k.val) := by decide +kernel
theorem code_lt (x : Int) (hx : Q.letB x = true) : codeN x < 12 := by
  have hl := (Q.letB_iff x).1 hx
  unfold codeN; split <;> omega

def prev (w : List Int) (i : Nat) : Int := if i = 0 then 0 else w.getD (i - 1) 0
theorem apart_get : ∀ (w : List Int), Q.apartB w = true → ∀ i, 0 < i → i < w.length → w.getD i 0 ≠ -(w.getD (i - 1) 0)
  | [], _, i, _, h => by simp at h
  | [_], _, i, h0, h => by simp at h; omega
  | a :: b :: t, ha, i, h0, h => by
    simp only [Q.apartB, Bool.and_eq_true, decide_eq_true_eq] at ha
    cases i with
    | zero => omega
    | succ i =>
      cases i with
      | zero => simpa using ha.1
      | succ i =>
        have := apart_get (b :: t) ha.2 (i + 1) (by omega) (by simpa using h)
        simpa using this
/-! filling up, and the next letter -/
def after (w : List Int) : Int := if w.getLast? = some (-1) then -1 else 1
def fillL : Nat → List Int → List Int
  | 0, w => w
  | d + 1, w => fillL d (w ++ [after w])
theorem rd_end (w : List Int) (h : 0 < w.length) : rd w ((w.length : Int) - 1) = w.getLast (by intro e; rw [e] at h; simp at h) := by
  have e : (w.length : Int) - 1 = ((w.length - 1 : Nat) : Int) := by omega
  rw [e, rd_nat _ _ (by omega), List.getLast_eq_getElem]
theorem wend (w : List Int) (h : w.length < 9223372036854775807) : wrap64 ((w.length : Int) - 1) = (w.length : Int) - 1 := by unfold wrap64; omega
theorem l7Filled_l0 (L : Nat) (hL : L < 1000) : ∀ (d k : Nat) (w : List Int), w.length + d = L → d < k → spec_l7Filled.l0 k (L : Int) w = some (fillL d w)
  | 0, k + 1, w, hw, _ => by
    rw [spec_l7Filled.l0, if_neg (by omega)]; rfl
  | d + 1, k + 1, w, hw, hk => by
    rw [spec_l7Filled.l0, if_pos (by omega)]
    by_cases h0 : w.length = 0
    · have hn : w = [] := List.length_eq_zero_iff.1 h0
      subst hn
      rw [if_neg (by simp), if_pos (by simp)]
      exact l7Filled_l0 L hL d k _ (by simp; simp at hw; omega) (by omega)
    · have hl : w.getLast? = some (rd w ((w.length : Int) - 1)) := by rw [rd_end w (by omega), List.getLast?_eq_some_getLast]
      rw [if_pos (by omega), wend w (by omega), if_pos (by omega), if_pos (by omega)]
      have ih := fun a => l7Filled_l0 L hL d k (w ++ [a]) (by simp; omega) (by omega)
      by_cases he : rd w ((w.length : Int) - 1) = -1
      · rw [if_pos he, if_pos (by omega), ih, fillL, after, hl, he]; rfl
      · rw [if_neg he, if_pos (by omega), ih, fillL, after, hl, if_neg (by simpa using he)]
theorem l7Filled_f (L : Nat) (hL : L < 1000) (k : Nat) (w : List Int) (hw : w.length ≤ L) (hk : L < k) : spec_l7Filled.f k w (L : Int) = some (fillL (L - w.length) w) := by
  rw [spec_l7Filled.f, spec_l1Own.f, Option.bind_some, if_pos (by simp; omega), Option.bind_some, List.nil_append]
  exact l7Filled_l0 L hL (L - w.length) k w (by omega) (by omega)
theorem choices_all : ∀ n : Fin 6, ∀ p : Fin 13, ((((p.val : Int) - 6).natAbs : Nat) : Int) ≤ (n.val : Int) + 1 → ((impl_choices.f ((n.val : Int) + 1) ((p.val : Int) - 6)).bind fun t => if 0 < (t.length : Int) then some (rd t 0) else none) = some (if (p.val : Int) - 6 = -1 then -1 else 1) := by decide +kernel
theorem choices_f (n p : Int) (h1 : 1 ≤ n) (h6 : n ≤ 6) (hp : (p.natAbs : Int) ≤ n) : ∃ t, impl_choices.f n p = some t ∧ 0 < (t.length : Int) ∧ rd t 0 = if p = -1 then -1 else 1 := by
  have en : (((n - 1).toNat : Nat) : Int) + 1 = n := by omega
  have ep : (((p + 6).toNat : Nat) : Int) - 6 = p := by omega
  have h := choices_all ⟨(n - 1).toNat, by omega⟩ ⟨(p + 6).toNat, by omega⟩
  simp only [en, ep] at h
  obtain ⟨t, ht, h2⟩ := Option.bind_eq_some_iff.1 (h hp)
  by_cases h0 : 0 < (t.length : Int)
  · rw [if_pos h0] at h2; exact ⟨t, ht, h0, Option.some.inj h2⟩
  · rw [if_neg h0] at h2; cases h2
theorem filled_l0 (n : Int) (h1 : 1 ≤ n) (h6 : n ≤ 6) (L : Nat) (hL : L < 1000) : ∀ (d k : Nat) (w : List Int), w.length + d = L → d < k → (∀ x ∈ w, (x.natAbs : Int) ≤ n) → impl_filled.l0 k n w (L : Int) = some (fillL d w)
  | 0, k + 1, w, hw, _, _ => by
    rw [impl_filled.l0, if_neg (by omega)]; rfl
  | d + 1, k + 1, w, hw, hk, hn => by
    have ih := fun (a : Int) (ha : (a.natAbs : Int) ≤ n) => filled_l0 n h1 h6 L hL d k (w ++ [a]) (by simp; omega) (by omega) (by
      intro x hx
      rcases List.mem_append.1 hx with h | h
      · exact hn x h
      · have : x = a := by simpa using h
        rw [this]; exact ha)
    rw [impl_filled.l0, if_pos (by omega)]
    by_cases h0 : w.length = 0
    · have hw0 : w = [] := List.length_eq_zero_iff.1 h0
      obtain ⟨t, ht, h2, h3⟩ := choices_f n 0 h1 h6 (by simp; omega)
      have e : rd t 0 = 1 := by rw [h3]; rfl
      rw [if_neg (by omega), ht, Option.bind_some, if_pos h2, if_pos (by omega), e, ih 1 (by simp; omega), fillL, after, hw0]; rfl
    · have hl : w.getLast? = some (rd w ((w.length : Int) - 1)) := by rw [rd_end w (by omega), List.getLast?_eq_some_getLast]
      have hm : rd w ((w.length : Int) - 1) ∈ w := by rw [rd_end w (by omega)]; exact List.getLast_mem _
      obtain ⟨t, ht, h2, h3⟩ := choices_f n (rd w ((w.length : Int) - 1)) h1 h6 (hn _ hm)
      rw [if_pos (by omega), wend w (by omega), if_pos (by omega), if_pos (by omega), ht, Option.bind_some, if_pos h2, if_pos (by omega), h3]
      by_cases he : rd w ((w.length : Int) - 1) = -1
      · rw [if_pos he, ih (-1) (by simp; omega), fillL, after, hl, he]; rfl
      · rw [if_neg he, ih 1 (by simp; omega), fillL, after, hl, if_neg (by simpa using he)]
/-- the first letter from place a on that isn't p's opposite -/
def nxt (p : Int) : Nat → Nat → Option Int
  | _, 0 => none
  | a, d + 1 => if lett a = -p then nxt p (a + 1) d else some (lett a)
def nxtOf (n : Int) (p x : Int) : Option Int := nxt p (codeN x + 1) (2 * n.toNat - (codeN x + 1))
theorem place2_all : ∀ n : Fin 6, ∀ p : Fin 13, ∀ x : Fin 13, Q.letB ((x.val : Int) - 6) = true → ((((x.val : Int) - 6).natAbs : Nat) : Int) ≤ (n.val : Int) + 1 → ((((p.val : Int) - 6).natAbs : Nat) : Int) ≤ (n.val : Int) + 1 → (x.val : Int) - 6 ≠ -((p.val : Int) - 6) →
    ((impl_choices.f ((n.val : Int) + 1) ((p.val : Int) - 6)).bind fun t => (slices_Index_int_int.f 20 t ((x.val : Int) - 6)).bind fun j =>
      if 0 ≤ j ∧ t.length ≤ 12 then (if j < (t.length : Int) - 1 then some (some (rd t (j + 1))) else some none) else none) = some (nxtOf ((n.val : Int) + 1) ((p.val : Int) - 6) ((x.val : Int) - 6)) := by decide +kernel
theorem place2_f (n p x : Int) (h1 : 1 ≤ n) (h6 : n ≤ 6) (hx : Q.letB x = true) (hxn : (x.natAbs : Int) ≤ n) (hpn : (p.natAbs : Int) ≤ n) (hne : x ≠ -p) : ∃ t j, impl_choices.f n p = some t ∧ (∀ k, 20 ≤ k → slices_Index_int_int.f k t x = some j) ∧ 0 ≤ j ∧ t.length ≤ 12 ∧
    (if j < (t.length : Int) - 1 then some (rd t (j + 1)) else none) = nxtOf n p x := by
  have hl := (Q.letB_iff x).1 hx
  have en : (((n - 1).toNat : Nat) : Int) + 1 = n := by omega
  have ep : (((p + 6).toNat : Nat) : Int) - 6 = p := by omega
  have ex : (((x + 6).toNat : Nat) : Int) - 6 = x := by omega
  have h := place2_all ⟨(n - 1).toNat, by omega⟩ ⟨(p + 6).toNat, by omega⟩ ⟨(x + 6).toNat, by omega⟩
  simp only [en, ep, ex] at h
  obtain ⟨t, ht, h2⟩ := Option.bind_eq_some_iff.1 (h hx hxn hpn hne)
  obtain ⟨j, hj, h3⟩ := Option.bind_eq_some_iff.1 h2
  by_cases hc : 0 ≤ j ∧ t.length ≤ 12
  · rw [if_pos hc] at h3
    refine ⟨t, j, ht, fun k hk => ?_, hc.1, hc.2, ?_⟩
    · have := le_mono (fun k => slices_Index_int_int.mono t x k) hj (k - 20)
      have e : 20 + (k - 20) = k := by omega
      rwa [e] at this
    · split at h3
      · rename_i hq; rw [if_pos hq]; exact Option.some.inj h3
      · rename_i hq; rw [if_neg hq]; exact Option.some.inj h3
  · rw [if_neg hc] at h3; cases h3
theorem nxt_in (n p : Int) (h6 : n ≤ 6) : ∀ (d a : Nat) (y : Int), a + d ≤ 2 * n.toNat → nxt p a d = some y → (y.natAbs : Int) ≤ n
  | 0, _, _, _, h => by cases h
  | d + 1, a, y, hd, h => by
    rw [nxt] at h
    split at h
    · exact nxt_in n p h6 d (a + 1) y (by omega) h
    · have := Option.some.inj h
      rw [← this]
      unfold lett
      split <;> omega

/-- what comes next, where the letters from place i on are the last ones -/
def go (w : List Int) (n : Int) : Nat → Option (List Int)
  | 0 => none
  | i + 1 => match nxtOf n (prev w i) (w.getD i 0) with
    | some y => some (fillL (w.length - (i + 1)) (w.take i ++ [y]))
    | none => go w n i
def nextOf (w : List Int) (n : Int) : List Int × Bool := match go w n w.length with
  | some r => (r, true)
  | none => if w.length = 64 then ([], false) else (fillL (w.length + 1) [], true)
theorem fillL_len : ∀ (d : Nat) (w : List Int), (fillL d w).length = w.length + d
  | 0, w => rfl
  | d + 1, w => by rw [fillL, fillL_len d]; simp; omega
end Go.Proofs.Ytnpgegfffklcpaa.PFnExactNextWord
namespace Go.Proofs.Ytnpgegfffklcpaa.Pure
open Go.RowKit Go.Proofs.Ytnpgegfffklcpaa.PFnExactNextWord Go.Proofs.YtnpgegfffklcpaaW.PrintWords Go.Proofs.YtnpgegfffklcpaaW.PrintLast
set_option linter.unusedVariables false
set_option linter.unusedSimpArgs false
theorem wm1 (i : Nat) (h : i < 1000000) : wrap64 (((i : Nat) : Int) - 1) = ((i : Nat) : Int) - 1 := by unfold wrap64; omega
theorem spec_l1 (w : List Int) (n : Int) (h1 : 1 ≤ n) (h6 : n ≤ 6) (hw : w.length ≤ 64) (hl : ∀ x ∈ w, Q.letB x = true) (i : Nat) (hi : i < w.length) :
    ∀ (d k a : Nat), a + d = 2 * n.toNat → 2 * d + 100 < k → spec_NextWord.l1 k w n (i : Int) (a : Int) = match nxt (prev w i) a d with
      | some y => some (fillL (w.length - (i + 1)) (w.take i ++ [y]), true)
      | none => spec_NextWord.l0 (k - 2 * d - 1) w n ((i : Int) - 1)
  | 0, k + 1, a, ha, _ => by
    have e : wrap64 (2 * n) = 2 * n := by unfold wrap64; omega
    rw [spec_NextWord.l1, e, if_neg (by omega), wm1 i (by omega)]; rfl
  | d + 1, k + 2, a, ha, hk => by
    have e : wrap64 (2 * n) = 2 * n := by unfold wrap64; omega
    have ek : k + 2 - 2 * (d + 1) - 1 = k - 2 * d - 1 := by omega
    have hlt := letter_all ⟨a, by omega⟩
    simp only at hlt
    have hj : (if (i : Int) = 0 then (spec_NextWord.j2 (k + 1) w n (i : Int) (a : Int) true) else ((spec_l7Letter.f (a : Int)).bind fun t152 => (if 0 ≤ (wrap64 ((i : Int) - 1)) then (if (wrap64 ((i : Int) - 1)) < (w.length : Int) then (spec_NextWord.j2 (k + 1) w n (i : Int) (a : Int) (t152 != (wrap64 (-(rd w (wrap64 ((i : Int) - 1))))))) else (none)) else (none))))
        = spec_NextWord.j2 (k + 1) w n (i : Int) (a : Int) (!decide (lett a = -(prev w i))) := by
      by_cases hz : i = 0
      · subst hz
        have : ¬ lett a = -(prev w 0) := by
          unfold lett prev
          split <;> simp <;> omega
        rw [if_pos (by omega), decide_eq_false this]; rfl
      · have hp : prev w i = w[i - 1] := by
          have hi2 : i - 1 < w.length := by omega
          simp [prev, hz, hi2]
        rw [if_neg (by omega), hlt, Option.bind_some, w64m i (by omega) (by omega), if_pos (by omega), if_pos (by omega), rd_nat _ _ (by omega), Q.wneg _ (hl _ (List.getElem_mem _)), hp]
        rfl
    rw [spec_NextWord.l1, e, if_pos (by omega), hj, spec_NextWord.j2, nxt, ek]
    by_cases hs1 : lett a = -(prev w i)
    · rw [decide_eq_true hs1, if_neg (by simp), if_pos hs1, w64 _ (by omega)]
      exact spec_l1 w n h1 h6 hw hl i hi d k (a + 1) (by omega) (by omega)
    · rw [decide_eq_false hs1, if_pos (by rfl), if_neg hs1, if_pos (by omega), if_pos (by omega), Int.toNat_natCast, spec_l1Own.f, Option.bind_some, if_pos (by simp; omega), Option.bind_some, List.nil_append, hlt, Option.bind_some, if_pos (by simp; omega), l7Filled_f w.length (by omega) k _ (by simp; omega) (by omega), Option.bind_some]
      have e2 : (w.take i ++ [lett a]).length = i + 1 := by simp; omega
      rw [e2]
theorem spec_go (w : List Int) (n : Int) (h1 : 1 ≤ n) (h6 : n ≤ 6) (hw : w.length ≤ 64) (hl : ∀ x ∈ w, Q.letB x = true) (hn : ∀ x ∈ w, (x.natAbs : Int) ≤ n) :
    ∀ (i k : Nat), i ≤ w.length → 30 * i + 300 < k → spec_NextWord.l0 k w n ((i : Int) - 1) = some (match go w n i with
      | some r => (r, true)
      | none => if w.length = 64 then ([], false) else (fillL (w.length + 1) [], true))
  | 0, k + 1, _, hk => by
    rw [spec_NextWord.l0, if_neg (by omega), go]
    by_cases h : w.length = 64
    · rw [if_pos (by omega)]; simp only [h, if_true]
    · have e : wrap64 ((w.length : Int) + 1) = ((w.length + 1 : Nat) : Int) := w64 _ (by omega)
      rw [if_neg (by omega), e, l7Filled_f (w.length + 1) (by omega) k [] (by simp) (by omega), Option.bind_some]
      simp only [h, if_false]; rfl
  | i + 1, k + 1, hi, hk => by
    have h : i < w.length := by omega
    have hg : w.getD i 0 = w[i] := by simp [h]
    have hx := hl _ (List.getElem_mem h)
    have hcl := code_lt _ hx
    have hxn := hn _ (List.getElem_mem h)
    have hx2 := (Q.letB_iff _).1 hx
    have hc2 : codeN w[i] + 1 ≤ 2 * n.toNat := by unfold codeN; split <;> omega
    have e0 : ((i + 1 : Nat) : Int) - 1 = (i : Int) := by omega
    have e1 : wrap64 (((codeN w[i] : Nat) : Int) + 1) = ((codeN w[i] + 1 : Nat) : Int) := w64 _ (by omega)
    rw [e0, spec_NextWord.l0, if_pos (by omega), if_pos (by omega), if_pos (by omega), rd_nat _ _ h, code_f _ hx, Option.bind_some, e1,
      spec_l1 w n h1 h6 hw hl i h (2 * n.toNat - (codeN w[i] + 1)) k (codeN w[i] + 1) (by omega) (by omega), go, hg, nxtOf]
    cases hq : nxt (prev w i) (codeN w[i] + 1) (2 * n.toNat - (codeN w[i] + 1)) with
    | some y => rfl
    | none => exact spec_go w n h1 h6 hw hl hn i _ (by omega) (by omega)
theorem impl_go (w : List Int) (n : Int) (h1 : 1 ≤ n) (h6 : n ≤ 6) (hw : w.length ≤ 64) (hl : ∀ x ∈ w, Q.letB x = true) (hn : ∀ x ∈ w, (x.natAbs : Int) ≤ n) (ha : ∀ i, 0 < i → i < w.length → w.getD i 0 ≠ -(w.getD (i - 1) 0)) :
    ∀ (i k : Nat), i ≤ w.length → 30 * i + 300 < k → impl_NextWord.l0 k w n ((i : Int) - 1) = some (match go w n i with
      | some r => (r, true)
      | none => if w.length = 64 then ([], false) else (fillL (w.length + 1) [], true))
  | 0, k + 1, _, hk => by
    have e : wrap64 ((w.length : Int) + 1) = ((w.length + 1 : Nat) : Int) := w64 _ (by omega)
    have e2 : impl_filled.f k n [] ((w.length + 1 : Nat) : Int) = _ := filled_l0 n h1 h6 (w.length + 1) (by omega) (w.length + 1) k [] (by simp) (by omega) (by simp)
    rw [impl_NextWord.l0, if_neg (by omega), go, e, e2, Option.bind_some, impl_fitting.f]
    have hlen : (fillL (w.length + 1) []).length = w.length + 1 := by rw [fillL_len]; simp
    by_cases h : w.length = 64
    · rw [if_pos (by omega)]; simp only [h, if_true]; rfl
    · rw [if_neg (by omega)]; simp only [h, if_false]; rfl
  | i + 1, k + 2, hi, hk => by
    have h : i < w.length := by omega
    have hg : w.getD i 0 = w[i] := by simp [h]
    have hx := hl _ (List.getElem_mem h)
    have hxn := hn _ (List.getElem_mem h)
    have e0 : ((i + 1 : Nat) : Int) - 1 = (i : Int) := by omega
    have hpn : ((prev w i).natAbs : Int) ≤ n := by
      by_cases hz : i = 0
      · simp [prev, hz]; omega
      · have hi2 : i - 1 < w.length := by omega
        have : prev w i = w[i - 1] := by simp [prev, hz, hi2]
        rw [this]; exact hn _ (List.getElem_mem _)
    have hne : w[i] ≠ -(prev w i) := by
      by_cases hz : i = 0
      · have := ((Q.letB_iff _).1 hx).1
        simp [prev, hz]; simpa [hz] using this
      · have hi2 : i - 1 < w.length := by omega
        have e : prev w i = w.getD (i - 1) 0 := by simp [prev, hz]
        rw [e, ← hg]; exact ha i (by omega) h
    have hj : (if (i : Int) > 0 then (if 0 ≤ (wrap64 ((i : Int) - 1)) then (if (wrap64 ((i : Int) - 1)) < (w.length : Int) then (impl_NextWord.j1 (k + 1) w n (i : Int) (rd w (wrap64 ((i : Int) - 1)))) else (none)) else (none)) else (impl_NextWord.j1 (k + 1) w n (i : Int) 0)) = impl_NextWord.j1 (k + 1) w n (i : Int) (prev w i) := by
      by_cases hz : i = 0
      · subst hz; rfl
      · have hi2 : i - 1 < w.length := by omega
        have : prev w i = w[i - 1] := by simp [prev, hz, hi2]
        rw [if_pos (by omega), w64m i (by omega) (by omega), if_pos (by omega), if_pos (by omega), rd_nat _ _ (by omega), this]
    obtain ⟨t, j, ht, hidx, hj0, ht12, hnx⟩ := place2_f n (prev w i) w[i] h1 h6 hx hxn hpn hne
    have ew : wrap64 ((t.length : Int) - 1) = (t.length : Int) - 1 := by unfold wrap64; omega
    have hlt : ((w.take i).length : Nat) = i := by rw [List.length_take]; omega
    rw [e0, impl_NextWord.l0, if_pos (by omega), hj, impl_NextWord.j1, ht, Option.bind_some, if_pos (by omega), if_pos (by omega), rd_nat _ _ h, hidx k (by omega), Option.bind_some, ew, go, hg, ← hnx]
    by_cases hq : j < (t.length : Int) - 1
    · have e3 : wrap64 (j + 1) = j + 1 := by unfold wrap64; omega
      have hy : ((rd t (j + 1)).natAbs : Int) ≤ n := by
        rw [if_pos hq] at hnx
        have hx2 := (Q.letB_iff _).1 hx
        have hc2 : codeN w[i] + 1 ≤ 2 * n.toNat := by unfold codeN; split <;> omega
        exact nxt_in n (prev w i) h6 _ _ _ (by omega) hnx.symm
      have e4 : impl_filled.f k n (w.take i ++ [rd t (j + 1)]) (w.length : Int) = _ := filled_l0 n h1 h6 w.length (by omega) (w.length - (i + 1)) k (w.take i ++ [rd t (j + 1)]) (by rw [List.length_append, hlt, List.length_singleton]; omega) (by omega) (by
        intro x hx
        rcases List.mem_append.1 hx with h | h
        · exact hn x (List.mem_of_mem_take h)
        · have : x = rd t (j + 1) := by simpa using h
          rw [this]; exact hy)
      rw [if_pos hq, if_pos (by omega), Int.toNat_natCast, slices_Clone_int_int.f, Q.slices_Clone_int_int.f, if_pos (by omega), Option.bind_some, e3, if_pos (by omega), if_pos (by omega), Option.bind_some, if_pos (by rw [hlt]; simp; omega), e4, Option.bind_some, if_pos hq]
    · rw [if_neg hq, if_neg hq, wm1 i (by omega)]
      exact impl_go w n h1 h6 hw hl hn ha i k (by omega) (by omega)
theorem spec_is (w : List Int) (n : Int) (hw : w.length < 1000000000) (k : Nat) (hk : 2 * w.length + 10000 < k) :
    spec_NextWord.f k w n = some (if Q.overB w n = true then nextOf w n else ([], false)) := by
  rw [spec_NextWord.f, l7Word_f w n (by omega) k (by omega), Option.bind_some]
  by_cases ho : Q.overB w n = true
  · have ho2 := ho
    simp only [Q.overB, Bool.and_eq_true, decide_eq_true_eq, List.all_eq_true] at ho2
    obtain ⟨⟨h1, h6⟩, hok, hap, hn⟩ := ho2
    obtain ⟨h64, hl⟩ := (Q.okW_iff w).1 hok
    rw [if_pos ho, if_pos ho, wm1 _ (by omega), spec_go w n h1 h6 h64 hl hn w.length k (Nat.le_refl _) (by omega)]; rfl
  · rw [if_neg ho, if_neg ho]
theorem impl_is (w : List Int) (n : Int) (hw : w.length < 1000000000) (k : Nat) (hk : 2 * w.length + 10000 < k) :
    impl_NextWord.f k w n = some (if Q.overB w n = true then nextOf w n else ([], false)) := by
  have e0 : impl_isOver.f w n = some (Q.overB w n) := Q.isOver_f w n (by omega) (2 * w.length + 100) (by omega)
  rw [impl_NextWord.f, e0, Option.bind_some]
  by_cases ho : Q.overB w n = true
  · have ho2 := ho
    simp only [Q.overB, Bool.and_eq_true, decide_eq_true_eq, List.all_eq_true] at ho2
    obtain ⟨⟨h1, h6⟩, hok, hap, hn⟩ := ho2
    obtain ⟨h64, hl⟩ := (Q.okW_iff w).1 hok
    rw [if_pos ho, if_pos ho, wm1 _ (by omega), impl_go w n h1 h6 h64 hl hn (apart_get w hap) w.length k (Nat.le_refl _) (by omega)]; rfl
  · rw [if_neg ho, if_neg ho]
theorem go_len (w : List Int) (n : Int) : ∀ (i : Nat) (r : List Int), i ≤ w.length → go w n i = some r → r.length ≤ w.length
  | 0, _, _, h => by cases h
  | i + 1, r, hi, h => by
    rw [go] at h
    split at h
    · rw [← Option.some.inj h, fillL_len]
      simp; omega
    · exact go_len w n i r (by omega) h
theorem FnExactNextWord_law (l : List Int) (s : Int) (r : List Int) (b : Bool) (k : Nat) (hk : 2 * l.length + r.length + 20000 < k) (hl : l.length ≤ 1048576) (hr : r.length ≤ 35184372088832)
    (hs : ∀ k, 2 * l.length + 10000 < k → spec_NextWord.f k l s = some (r, b)) (hi : ∀ k, 2 * l.length + 10000 < k → impl_NextWord.f k l s = some (r, b)) : laws_FnExactNextWord.f (k + 10) l s = some true := by
  have a1 := fun j (hj : l.length < j) => toIntS_f l j (by omega) hj
  have e1 := fun j (hj : r.length < j) => eqIntS_f r j (by omega) hj
  have e2 := fun j (hj : l.length < j) => eqIntS_f l j (by omega) hj
  have m1 := fun j (hj : l.length < j) => markIntS_f l 1 j (by omega) hj (by omega) (by omega)
  have m2 := fun j (hj : r.length < j) => markIntS_f r 1 j (by omega) hj (by omega) (by omega)
  have h1 := fun j (hj : r.length < j) => heldIntS_f 1 r.length j (by omega) hj (by omega) (by omega)
  rw [laws_FnExactNextWord.f, if_neg (by omega)]
  refine bindS (a1 _ (by omega)) ?_
  refine bindS (hs _ (by omega)) ?_
  refine bindS (a1 _ (by omega)) ?_
  refine bindS (hi _ (by omega)) ?_
  refine bindS (e1 _ (by omega)) ?_
  rw [if_pos rfl, bne_self_eq_false, laws_FnExactNextWord.j0, if_neg Bool.false_ne_true]
  refine bindS (a1 _ (by omega)) ?_
  refine bindS (e2 _ (by omega)) ?_
  rw [if_pos rfl]
  refine bindS (m1 _ (by omega)) ?_
  rw [if_neg (by simp only; omega)]
  refine bindS (e1 _ (by omega)) ?_
  rw [if_pos rfl, bne_self_eq_false, laws_FnExactNextWord.j1, if_neg Bool.false_ne_true]
  refine bindS (m2 _ (by omega)) ?_
  refine bindS (h1 _ (by omega)) ?_
  rw [if_neg (by omega), if_pos rfl]
  refine bindS (a1 _ (by omega)) ?_
  refine bindS (hi _ (by omega)) ?_
  refine bindS (e1 _ (by omega)) ?_
  rw [if_pos rfl, bne_self_eq_false, laws_FnExactNextWord.j2, if_neg Bool.false_ne_true]
  refine bindS (h1 _ (by omega)) ?_
  rw [if_neg (by omega), if_pos rfl]
theorem law_all (l : List Int) (n : Int) (h : l.length ≤ 1048576) (k : Nat) (hk : 4 * l.length + 29999 < k) : laws_FnExactNextWord.f (k + 10) l n = some true := by
  have hn : l.length < 1000000000 := by omega
  by_cases ho : Q.overB l n = true
  · have e1 : ∀ k, 2 * l.length + 10000 < k → spec_NextWord.f k l n = some ((nextOf l n).1, (nextOf l n).2) := fun k hk => by
      rw [spec_is l n hn k hk, if_pos ho]
    have e2 : ∀ k, 2 * l.length + 10000 < k → impl_NextWord.f k l n = some ((nextOf l n).1, (nextOf l n).2) := fun k hk => by
      rw [impl_is l n hn k hk, if_pos ho]
    have hlen : (nextOf l n).1.length ≤ l.length + 1 := by
      unfold nextOf
      cases hq : go l n l.length with
      | some r => have := go_len l n l.length r (Nat.le_refl _) hq; simp only; omega
      | none =>
        simp only
        split
        · simp
        · simp only [fillL_len]; simp
    generalize (nextOf l n).1 = r at e1 e2 hlen
    generalize (nextOf l n).2 = b at e1 e2
    exact FnExactNextWord_law l n r b k (by omega) h (by omega) e1 e2
  · have e1 : ∀ k, 2 * l.length + 10000 < k → spec_NextWord.f k l n = some ([], false) := fun k hk => by
      rw [spec_is l n hn k hk, if_neg ho]
    have e2 : ∀ k, 2 * l.length + 10000 < k → impl_NextWord.f k l n = some ([], false) := fun k hk => by
      rw [impl_is l n hn k hk, if_neg ho]
    exact FnExactNextWord_law l n [] false k (by simp; omega) h (by simp) e1 e2

/-- The program's NextWord and the reference's agree at every list and number. -/
theorem FnExactNextWord : laws_FnExactNextWord.Pure := by
  intro l n _ _ _ _
  by_cases h : l.length ≤ 1048576
  · exact ⟨4 * l.length + 30000 + 10, law_all l n h (4 * l.length + 30000) (by omega)⟩
  · exact ⟨0, by unfold laws_FnExactNextWord.f; rw [if_pos (by omega)]⟩
end Go.Proofs.Ytnpgegfffklcpaa.Pure
