/- What the program's and the reference's functions of valid families compute (Fix, Out, Dual), as plain functions of lists. Conditions stand in each theorem. -/
import Derived.Test.YtncdgimmalifjaaQB
import Derived.Test.YtncdgimmalifjaaFA
namespace Go.Proofs.Ytncdgimmalifjaa.Q
open Go.RowKit Go.Proofs.YtncdgimmalifjaaW.PrintWords Go.Proofs.YtncdgimmalifjaaW.PrintLast Go.Proofs.YtncdgimmalifjaaW.PrintMore Go.Proofs.YtncdgimmalifjaaM
set_option linter.unusedVariables false
set_option linter.unusedSimpArgs false

theorem w64s (i : Nat) (h : 0 < i) (h2 : i < 9223372036854775807) : wrap64 ((i : Int) - 1) = ((i - 1 : Nat) : Int) := by
  unfold wrap64; omega

/-- a set of a family is as it should be, as the reference looks at it and as the program does -/
def okS (l : List Int) (j : Nat) : Prop := inS (rd l j) = true ∧ (0 < j → rd l ((j - 1 : Nat) : Int) < rd l j) ∧ ∀ q : Nat, q < j → pt (rd l q) (rd l j) = false
def okI (l : List Int) (j : Nat) : Prop := inS (rd l j) = true ∧ (0 < j → rd l ((j - 1 : Nat) : Int) < rd l j) ∧ ∀ q : Nat, q < l.length → q ≠ j → pt (rd l q) (rd l j) = false
def Valid (l : List Int) : Prop := ∀ j, j < l.length → okS l j
theorem valid_up {l : List Int} (h : Valid l) (i : Nat) : ∀ d, i + d + 1 < l.length → rd l (i : Int) < rd l ((i + d + 1 : Nat) : Int)
  | 0, hd => by
    have := (h (i + 1) (by omega)).2.1 (by omega)
    simpa using this
  | d + 1, hd => by
    have h1 := valid_up h i d (by omega)
    have h2 := (h (i + (d + 1) + 1) hd).2.1 (by omega)
    have e : i + (d + 1) + 1 - 1 = i + d + 1 := by omega
    rw [e] at h2
    omega
theorem valid_iff (l : List Int) : Valid l ↔ ∀ j, j < l.length → okI l j := by
  constructor
  · intro h j hj
    refine ⟨(h j hj).1, (h j hj).2.1, fun q hq hn => ?_⟩
    by_cases hqj : q < j
    · exact (h j hj).2.2 q hqj
    · have h1 := valid_up h j (q - j - 1) (by omega)
      have e : j + (q - j - 1) + 1 = q := by omega
      rw [e] at h1
      cases hp : pt (rd l (q : Int)) (rd l (j : Int)) with
      | false => rfl
      | true =>
        have := pt_le _ _ (h q hq).1 (h j hj).1 hp
        omega
  · intro h j hj
    exact ⟨(h j hj).1, (h j hj).2.1, fun q hq => (h j hj).2.2 q (by omega) (by omega)⟩
theorem valid_in {l : List Int} (h : Valid l) : l.all inS = true := by
  rw [List.all_eq_true]
  intro a ha
  obtain ⟨j, hj, rfl⟩ := List.mem_iff_getElem.mp ha
  have := (h j hj).1
  rwa [rd_nat _ _ hj] at this

theorem l5Family_l1 (m : List Int) (x : Nat) (hx : x < m.length) (hm : m.length < 9223372036854775807) : ∀ (n k i : Nat), i + n = x → n < k →
    (spec_l5Family.l1 k (x : Int) (i : Int) m = some false ∧ ¬ ∀ q : Nat, i ≤ q → q < x → pt (rd m q) (rd m x) = false) ∨
    (spec_l5Family.l1 k (x : Int) (i : Int) m = spec_l5Family.l0 (k - n - 1) ((x + 1 : Nat) : Int) m ∧ ∀ q : Nat, i ≤ q → q < x → pt (rd m q) (rd m x) = false)
  | 0, k + 1, i, hi, _ => by
    right
    refine ⟨?_, fun q h1 h2 => by omega⟩
    rw [spec_l5Family.l1, if_neg (by omega), w64 _ (by omega)]
    rfl
  | n + 1, k + 1, i, hi, hk => by
    rw [spec_l5Family.l1, if_pos (by omega), if_pos (by omega), if_pos (by omega), if_pos (by omega), if_pos (by omega), w64 _ (by omega)]
    simp only [spec_l5Part.f, Option.bind_some]
    by_cases hp : pt (rd m i) (rd m x) = true
    · left
      have h2 : ((Go.bits .and .i64 (rd m i) (rd m x)) == rd m i) = true := hp
      refine ⟨by rw [if_pos h2], fun h => ?_⟩
      have := h i (Nat.le_refl _) (by omega)
      rw [hp] at this; cases this
    · have e : k + 1 - (n + 1) - 1 = k - n - 1 := by omega
      have hp' : pt (rd m i) (rd m x) = false := by simpa using hp
      have h2 : ¬ ((Go.bits .and .i64 (rd m i) (rd m x)) == rd m i) = true := hp
      rw [if_neg h2, e]
      rcases l5Family_l1 m x hx hm n k (i + 1) (by omega) (by omega) with ⟨h1, h3⟩ | ⟨h1, h3⟩
      · exact .inl ⟨h1, fun h => h3 fun q hq => h q (by omega)⟩
      · exact .inr ⟨h1, fun q hq hqx => by
          by_cases hqi : q = i
          · subst hqi; exact hp'
          · exact h3 q (by omega) hqx⟩
theorem l5Family_l0 (m : List Int) (hm : m.length < 9223372036854775807) : ∀ (n k i : Nat), i + n = m.length → n * (m.length + 2) < k →
    ∃ b, spec_l5Family.l0 k (i : Int) m = some b ∧ (b = true ↔ ∀ j, i ≤ j → j < m.length → okS m j)
  | 0, k + 1, i, hi, _ => ⟨true, by rw [spec_l5Family.l0, if_neg (by omega)], by simp; intro j h1 h2; omega⟩
  | n + 1, k + 1, i, hi, hk => by
    rw [Nat.succ_mul] at hk
    have hL : i < m.length := by omega
    rw [spec_l5Family.l0, if_pos (by omega), if_pos (by omega), l3Set_f, Option.bind_some]
    by_cases hs : inS (rd m i) = true
    · rw [if_pos hs]
      have tail : (0 < i → rd m ((i - 1 : Nat) : Int) < rd m i) → ∃ b, spec_l5Family.l1 k (i : Int) 0 m = some b ∧ (b = true ↔ ∀ j, i ≤ j → j < m.length → okS m j) := by
        intro ha
        rcases l5Family_l1 m i hL hm i k 0 (by omega) (by omega) with ⟨h1, h3⟩ | ⟨h1, h3⟩
        · refine ⟨false, h1, ?_⟩
          simp only [Bool.false_eq_true, false_iff]
          intro h
          exact h3 fun q _ hq => (h i (Nat.le_refl _) hL).2.2 q hq
        · obtain ⟨b, hb, hb2⟩ := l5Family_l0 m hm n (k - i - 1) (i + 1) (by omega) (by omega)
          refine ⟨b, h1.trans hb, hb2.trans ?_⟩
          constructor
          · intro h j h4 h5
            by_cases hj : j = i
            · subst hj; exact ⟨hs, ha, fun q hq => h3 q (by omega) hq⟩
            · exact h j (by omega) h5
          · intro h j h4 h5; exact h j (by omega) h5
      by_cases h0 : 0 < i
      · rw [if_pos (by omega), w64s i h0 (by omega), if_pos (by omega), if_pos (by omega)]
        by_cases hle : rd m i ≤ rd m ((i - 1 : Nat) : Int)
        · rw [if_pos hle]
          refine ⟨false, rfl, ?_⟩
          simp only [Bool.false_eq_true, false_iff]
          intro h
          have := (h i (Nat.le_refl _) hL).2.1 h0
          omega
        · rw [if_neg hle]; exact tail fun _ => by omega
      · rw [if_neg (by omega)]; exact tail fun h => absurd h h0
    · rw [if_neg hs]
      refine ⟨false, rfl, ?_⟩
      simp only [Bool.false_eq_true, false_iff]
      intro h
      exact hs (h i (Nat.le_refl _) hL).1
theorem l5Family_f (m : List Int) (k : Nat) (hm : m.length < 9223372036854775807) (hk : m.length * (m.length + 2) < k) : ∃ b, spec_l5Family.f k m = some b ∧ (b = true ↔ Valid m) := by
  obtain ⟨b, h1, h2⟩ := l5Family_l0 m hm m.length k 0 (by omega) hk
  exact ⟨b, h1, h2.trans ⟨fun h j hj => h j (by omega) hj, fun h j _ hj => h j hj⟩⟩

theorem isFamily_l1 (m : List Int) (x : Nat) (hx : x < m.length) (hm : m.length < 9223372036854775807) : ∀ (n k i : Nat), i + n = m.length → n < k →
    (impl_isFamily.l1 k (x : Int) (rd m x) m (m.length : Int) (x : Int) m (m.length : Int) (i : Int) m = some false ∧ ¬ ∀ q : Nat, i ≤ q → q < m.length → q ≠ x → pt (rd m q) (rd m x) = false) ∨
    (impl_isFamily.l1 k (x : Int) (rd m x) m (m.length : Int) (x : Int) m (m.length : Int) (i : Int) m = impl_isFamily.l0 (k - n - 1) m (m.length : Int) ((x + 1 : Nat) : Int) m ∧ ∀ q : Nat, i ≤ q → q < m.length → q ≠ x → pt (rd m q) (rd m x) = false)
  | 0, k + 1, i, hi, _ => by
    right
    refine ⟨?_, fun q h1 h2 => by omega⟩
    rw [impl_isFamily.l1, if_neg (by omega), w64 _ (by omega)]
    rfl
  | n + 1, k + 1, i, hi, hk => by
    have e : k + 1 - (n + 1) - 1 = k - n - 1 := by omega
    rw [impl_isFamily.l1, if_pos (by omega), if_pos (by omega), if_pos (by omega), w64 _ (by omega), e]
    by_cases hix : i = x
    · subst hix
      rw [if_pos rfl]
      rcases isFamily_l1 m i hx hm n k (i + 1) (by omega) (by omega) with ⟨h1, h3⟩ | ⟨h1, h3⟩
      · exact .inl ⟨h1, fun h => h3 fun q hq => h q (by omega)⟩
      · exact .inr ⟨h1, fun q hq hqx hn => h3 q (by omega) hqx hn⟩
    · rw [if_neg (by omega)]
      by_cases hp : pt (rd m i) (rd m x) = true
      · left
        have h2 : (Go.bits .and .i64 (rd m i) (rd m x)) = rd m i := by simpa [pt] using hp
        refine ⟨by rw [if_pos h2], fun h => ?_⟩
        have := h i (Nat.le_refl _) (by omega) hix
        rw [hp] at this; cases this
      · have hp' : pt (rd m i) (rd m x) = false := by simpa using hp
        have h2 : ¬ (Go.bits .and .i64 (rd m i) (rd m x)) = rd m i := by simpa [pt] using hp
        rw [if_neg h2]
        rcases isFamily_l1 m x hx hm n k (i + 1) (by omega) (by omega) with ⟨h1, h3⟩ | ⟨h1, h3⟩
        · exact .inl ⟨h1, fun h => h3 fun q hq => h q (by omega)⟩
        · exact .inr ⟨h1, fun q hq hqx hn => by
            by_cases hqi : q = i
            · subst hqi; exact hp'
            · exact h3 q (by omega) hqx hn⟩
theorem isFamily_l0 (m : List Int) (hm : m.length < 9223372036854775807) : ∀ (n k i : Nat), i + n = m.length → n * (m.length + 2) < k →
    ∃ b, impl_isFamily.l0 k m (m.length : Int) (i : Int) m = some b ∧ (b = true ↔ ∀ j, i ≤ j → j < m.length → okI m j)
  | 0, k + 1, i, hi, _ => ⟨true, by rw [impl_isFamily.l0, if_neg (by omega)], by simp; intro j h1 h2; omega⟩
  | n + 1, k + 1, i, hi, hk => by
    rw [Nat.succ_mul] at hk
    have hL : i < m.length := by omega
    rw [impl_isFamily.l0, if_pos (by omega), if_pos (by omega), if_pos (by omega), isSet_f, Option.bind_some]
    by_cases hs : inS (rd m i) = true
    · rw [if_pos hs]
      have tail : (0 < i → rd m ((i - 1 : Nat) : Int) < rd m i) → ∃ b, impl_isFamily.l1 k (i : Int) (rd m i) m (m.length : Int) (i : Int) m (m.length : Int) 0 m = some b ∧ (b = true ↔ ∀ j, i ≤ j → j < m.length → okI m j) := by
        intro ha
        rcases isFamily_l1 m i hL hm m.length k 0 (by omega) (by omega) with ⟨h1, h3⟩ | ⟨h1, h3⟩
        · refine ⟨false, h1, ?_⟩
          simp only [Bool.false_eq_true, false_iff]
          intro h
          exact h3 fun q _ hq hn => (h i (Nat.le_refl _) hL).2.2 q hq hn
        · obtain ⟨b, hb, hb2⟩ := isFamily_l0 m hm n (k - m.length - 1) (i + 1) (by omega) (by omega)
          refine ⟨b, h1.trans hb, hb2.trans ?_⟩
          constructor
          · intro h j h4 h5
            by_cases hj : j = i
            · subst hj; exact ⟨hs, ha, fun q hq hn => h3 q (by omega) hq hn⟩
            · exact h j (by omega) h5
          · intro h j h4 h5; exact h j (by omega) h5
      by_cases h0 : 0 < i
      · rw [if_pos (by omega), w64s i h0 (by omega), if_pos (by omega), if_pos (by omega)]
        by_cases hle : rd m i ≤ rd m ((i - 1 : Nat) : Int)
        · rw [if_pos hle]
          refine ⟨false, rfl, ?_⟩
          simp only [Bool.false_eq_true, false_iff]
          intro h
          have := (h i (Nat.le_refl _) hL).2.1 h0
          omega
        · rw [if_neg hle]; exact tail fun _ => by omega
      · rw [if_neg (by omega)]; exact tail fun h => absurd h h0
    · rw [if_neg hs]
      refine ⟨false, rfl, ?_⟩
      simp only [Bool.false_eq_true, false_iff]
      intro h
      exact hs (h i (Nat.le_refl _) hL).1
theorem isFamily_f (m : List Int) (k : Nat) (hm : m.length < 9223372036854775807) (hk : m.length * (m.length + 2) < k) : ∃ b, impl_isFamily.f k m = some b ∧ (b = true ↔ Valid m) := by
  obtain ⟨b, h1, h2⟩ := isFamily_l0 m hm m.length k 0 (by omega) hk
  exact ⟨b, h1, h2.trans ((valid_iff m).trans ⟨fun h j _ hj => h j hj, fun h j hj => h j (by omega) hj⟩).symm⟩
open Classical in
theorem l5Family_is (m : List Int) (k : Nat) (hm : m.length < 9223372036854775807) (hk : m.length * (m.length + 2) < k) : spec_l5Family.f k m = some (decide (Valid m)) := by
  obtain ⟨b, h1, h2⟩ := l5Family_f m k hm hk
  rw [h1]; congr 1; rw [Bool.eq_iff_iff, h2, decide_eq_true_iff]
open Classical in
theorem isFamily_is (m : List Int) (k : Nat) (hm : m.length < 9223372036854775807) (hk : m.length * (m.length + 2) < k) : impl_isFamily.f k m = some (decide (Valid m)) := by
  obtain ⟨b, h1, h2⟩ := isFamily_f m k hm hk
  rw [h1]; congr 1; rw [Bool.eq_iff_iff, h2, decide_eq_true_iff]

/-! what is kept of parts -/
def anot (a b : Int) : Int := Go.bits .andNot .i64 a b
def bor (a b : Int) : Int := Go.bits .or .i64 a b
theorem anot_nat : ∀ i : Fin 64, ∀ j : Fin 64, Go.bits .andNot .i64 ((i.val : Nat) : Int) ((j.val : Nat) : Int) = ((i.val &&& (63 ^^^ j.val) : Nat) : Int) := by decide +kernel
theorem or_nat : ∀ i : Fin 64, ∀ j : Fin 64, Go.bits .or .i64 ((i.val : Nat) : Int) ((j.val : Nat) : Int) = ((i.val ||| j.val : Nat) : Int) := by decide +kernel
theorem anot_in (a b : Int) (ha : inS a = true) (hb : inS b = true) : inS (anot a b) = true := by
  rw [inS_iff] at ha hb
  obtain ⟨a, rfl⟩ := Int.eq_ofNat_of_zero_le ha.1
  obtain ⟨b, rfl⟩ := Int.eq_ofNat_of_zero_le hb.1
  have := anot_nat ⟨a, by omega⟩ ⟨b, by omega⟩
  simp only at this
  rw [anot, this, inS_iff]
  have h : a &&& (63 ^^^ b) ≤ a := Nat.and_le_left
  omega
theorem or_in (a b : Int) (ha : inS a = true) (hb : inS b = true) : inS (bor a b) = true := by
  rw [inS_iff] at ha hb
  obtain ⟨a, rfl⟩ := Int.eq_ofNat_of_zero_le ha.1
  obtain ⟨b, rfl⟩ := Int.eq_ofNat_of_zero_le hb.1
  have := or_nat ⟨a, by omega⟩ ⟨b, by omega⟩
  simp only at this
  rw [bor, this, inS_iff]
  have h : a ||| b < 2 ^ 6 := Nat.or_lt_two_pow (by omega) (by omega)
  omega
theorem anot_pt (y x s : Int) (hy : inS y = true) (hx : inS x = true) (hs : inS s = true) (h : pt y x = true) : pt (anot y s) (anot x s) = true := by
  have h1 := (inS_iff _).mp (anot_in y s hy hs)
  have h2 := (inS_iff _).mp (anot_in x s hx hs)
  rw [inS_iff] at hy hx hs
  obtain ⟨y, rfl⟩ := Int.eq_ofNat_of_zero_le hy.1
  obtain ⟨x, rfl⟩ := Int.eq_ofNat_of_zero_le hx.1
  obtain ⟨s, rfl⟩ := Int.eq_ofNat_of_zero_le hs.1
  have e1 := anot_nat ⟨y, by omega⟩ ⟨s, by omega⟩
  have e2 := anot_nat ⟨x, by omega⟩ ⟨s, by omega⟩
  simp only at e1 e2
  rw [anot, e1] at h1; rw [anot, e2] at h2
  rw [anot, anot, e1, e2, pt_nat _ _ (by omega) (by omega)]
  rw [pt_nat _ _ (by omega) (by omega)] at h
  simp only [beq_iff_eq] at *
  apply Nat.eq_of_testBit_eq
  intro i
  have hb := congrArg (Nat.testBit · i) h
  simp only [Nat.testBit_and, Nat.testBit_xor] at *
  revert hb
  cases y.testBit i <;> cases x.testBit i <;> cases s.testBit i <;> simp
theorem or_pt (y x s : Int) (hy : inS y = true) (hx : inS x = true) (hs : inS s = true) (h : pt y x = true) : pt (bor y s) (bor x s) = true := by
  have h1 := (inS_iff _).mp (or_in y s hy hs)
  have h2 := (inS_iff _).mp (or_in x s hx hs)
  rw [inS_iff] at hy hx hs
  obtain ⟨y, rfl⟩ := Int.eq_ofNat_of_zero_le hy.1
  obtain ⟨x, rfl⟩ := Int.eq_ofNat_of_zero_le hx.1
  obtain ⟨s, rfl⟩ := Int.eq_ofNat_of_zero_le hs.1
  have e1 := or_nat ⟨y, by omega⟩ ⟨s, by omega⟩
  have e2 := or_nat ⟨x, by omega⟩ ⟨s, by omega⟩
  simp only at e1 e2
  rw [bor, e1] at h1; rw [bor, e2] at h2
  rw [bor, bor, e1, e2, pt_nat _ _ (by omega) (by omega)]
  rw [pt_nat _ _ (by omega) (by omega)] at h
  simp only [beq_iff_eq] at *
  apply Nat.eq_of_testBit_eq
  intro i
  have hb := congrArg (Nat.testBit · i) h
  simp only [Nat.testBit_and, Nat.testBit_or] at *
  revert hb
  cases y.testBit i <;> cases x.testBit i <;> cases s.testBit i <;> simp
theorem anot_anti (y x s : Int) (hy : inS y = true) (hx : inS x = true) (hs : inS s = true) (h : pt y x = true) : pt (anot s x) (anot s y) = true := by
  have h1 := (inS_iff _).mp (anot_in s y hs hy)
  have h2 := (inS_iff _).mp (anot_in s x hs hx)
  rw [inS_iff] at hy hx hs
  obtain ⟨y, rfl⟩ := Int.eq_ofNat_of_zero_le hy.1
  obtain ⟨x, rfl⟩ := Int.eq_ofNat_of_zero_le hx.1
  obtain ⟨s, rfl⟩ := Int.eq_ofNat_of_zero_le hs.1
  have e1 := anot_nat ⟨s, by omega⟩ ⟨y, by omega⟩
  have e2 := anot_nat ⟨s, by omega⟩ ⟨x, by omega⟩
  simp only at e1 e2
  rw [anot, e1] at h1; rw [anot, e2] at h2
  rw [anot, anot, e1, e2, pt_nat _ _ (by omega) (by omega)]
  rw [pt_nat _ _ (by omega) (by omega)] at h
  simp only [beq_iff_eq] at *
  have h63 : s &&& 63 = s := by
    have := Nat.and_two_pow_sub_one_eq_mod s 6
    rw [Nat.mod_eq_of_lt (by omega)] at this
    exact this
  apply Nat.eq_of_testBit_eq
  intro i
  have hb := congrArg (Nat.testBit · i) h
  have hc := congrArg (Nat.testBit · i) h63
  simp only [Nat.testBit_and, Nat.testBit_xor] at *
  revert hb hc
  cases y.testBit i <;> cases x.testBit i <;> cases s.testBit i <;> cases (63 : Nat).testBit i <;> simp

def hasB (l : List Int) (x : Int) : Bool := l.any fun a => pt a x
/-! FixFamily and OutFamily -/
theorem fix_l0 (s : Int) (l : List Int) (hl : l.length < 9223372036854775807) (p : Int → Bool) (hp : p = fun x => hasB l (anot x s)) : ∀ (n k i : Nat) (m : List Bool), i + n = 64 → m.length = 64 → m.take i = ((List.range i).map fun j => p ((j : Nat) : Int)) → n + l.length + 80 < k → spec_FixFamily.l0 k s (i : Int) m l = some (upto (edgeB p) 64, true)
  | 0, k + 1, i, m, hi, hm, ht, hk => by
    have hi : i = 64 := by omega
    have e : m.take i = m := List.take_of_length_le (by omega)
    rw [e, hi] at ht
    rw [spec_FixFamily.l0, if_neg (by omega), ht]
    show (spec_l5Made.f k (tb p)).bind _ = _
    rw [l5Made_f p k (by omega)]; rfl
  | n + 1, k + 1, i, m, hi, hm, ht, hk => by
    have e : l.any (fun a => pt a (Go.bits .andNot .i64 (i : Int) s)) = p (i : Int) := by rw [hp]; rfl
    rw [spec_FixFamily.l0, if_pos (by omega), l5Has_f _ _ _ hl (by omega), Option.bind_some, if_pos (by omega), w64 _ (by omega), e]
    refine fix_l0 s l hl p hp n k (i + 1) _ (by omega) (by simp [hm]) ?_ (by omega)
    rw [Int.toNat_natCast]
    exact set_range p m i hm (by omega) ht
theorem out_l0 (s : Int) (l : List Int) (hl : l.length < 9223372036854775807) (p : Int → Bool) (hp : p = fun x => hasB l (bor x s)) : ∀ (n k i : Nat) (m : List Bool), i + n = 64 → m.length = 64 → m.take i = ((List.range i).map fun j => p ((j : Nat) : Int)) → n + l.length + 80 < k → spec_OutFamily.l0 k s (i : Int) m l = some (upto (edgeB p) 64, true)
  | 0, k + 1, i, m, hi, hm, ht, hk => by
    have hi : i = 64 := by omega
    have e : m.take i = m := List.take_of_length_le (by omega)
    rw [e, hi] at ht
    rw [spec_OutFamily.l0, if_neg (by omega), ht]
    show (spec_l5Made.f k (tb p)).bind _ = _
    rw [l5Made_f p k (by omega)]; rfl
  | n + 1, k + 1, i, m, hi, hm, ht, hk => by
    have e : l.any (fun a => pt a (Go.bits .or .i64 (i : Int) s)) = p (i : Int) := by rw [hp]; rfl
    rw [spec_OutFamily.l0, if_pos (by omega), l5Has_f _ _ _ hl (by omega), Option.bind_some, if_pos (by omega), w64 _ (by omega), e]
    refine out_l0 s l hl p hp n k (i + 1) _ (by omega) (by simp [hm]) ?_ (by omega)
    rw [Int.toNat_natCast]
    exact set_range p m i hm (by omega) ht
theorem dual_l0 (s : Int) (l : List Int) (hl : l.length < 9223372036854775807) (p : Int → Bool) (hp : p = fun x => !hasB l (anot s x)) : ∀ (n k i : Nat) (m : List Bool), i + n = 64 → m.length = 64 → m.take i = ((List.range i).map fun j => p ((j : Nat) : Int)) → n + l.length + 80 < k → spec_l5Dual.l0 k s (i : Int) m l = some (upto (edgeB p) 64)
  | 0, k + 1, i, m, hi, hm, ht, hk => by
    have hi : i = 64 := by omega
    have e : m.take i = m := List.take_of_length_le (by omega)
    rw [e, hi] at ht
    rw [spec_l5Dual.l0, if_neg (by omega), ht]
    show (spec_l5Made.f k (tb p)).bind _ = _
    rw [l5Made_f p k (by omega)]; rfl
  | n + 1, k + 1, i, m, hi, hm, ht, hk => by
    have e : (!l.any (fun a => pt a (Go.bits .andNot .i64 s (i : Int)))) = p (i : Int) := by rw [hp]; rfl
    rw [spec_l5Dual.l0, if_pos (by omega), l5Has_f _ _ _ hl (by omega), Option.bind_some, if_pos (by omega), w64 _ (by omega), e]
    refine dual_l0 s l hl p hp n k (i + 1) _ (by omega) (by simp [hm]) ?_ (by omega)
    rw [Int.toNat_natCast]
    exact set_range p m i hm (by omega) ht

theorem up_fix {l : List Int} (hl : l.all inS = true) (s : Int) (hs : inS s = true) : up fun x => hasB l (anot x s) :=
  fun y x hy hx h hp => up_has l hl _ _ (anot_in y s hy hs) (anot_in x s hx hs) (anot_pt y x s hy hx hs h) hp
theorem up_out {l : List Int} (hl : l.all inS = true) (s : Int) (hs : inS s = true) : up fun x => hasB l (bor x s) :=
  fun y x hy hx h hp => up_has l hl _ _ (or_in y s hy hs) (or_in x s hx hs) (or_pt y x s hy hx hs h) hp
theorem up_dual {l : List Int} (hl : l.all inS = true) (s : Int) (hs : inS s = true) : up fun x => !hasB l (anot s x) := by
  intro y x hy hx h hp
  simp only [Bool.not_eq_true'] at *
  cases hq : hasB l (anot s x) with
  | false => rfl
  | true =>
    have : hasB l (anot s y) = true := up_has l hl _ _ (anot_in s x hs hx) (anot_in s y hs hy) (anot_anti y x s hy hx hs h) hq
    rw [hp] at this; cases this

open Classical in
theorem spec_FixFamily_is (l : List Int) (s : Int) (hl : l.length < 9223372036854775807) (k : Nat) (hk : l.length * (l.length + 2) + l.length + 200 < k) :
    spec_FixFamily.f k l s = if Valid l ∧ inS s = true then some (upto (leastB fun x => hasB l (anot x s)) 64, true) else some ([], false) := by
  rw [spec_FixFamily.f, l5Family_is l k hl (by omega), Option.bind_some]
  by_cases hv : Valid l
  · rw [if_pos (decide_eq_true hv), l3Set_f, Option.bind_some]
    by_cases hs : inS s = true
    · rw [if_pos hs, if_pos ⟨hv, hs⟩]
      have : spec_FixFamily.l0 k s 0 (List.replicate 64 false) l = _ := fix_l0 s l hl _ rfl 64 k 0 _ (by omega) (by simp) (by simp) (by omega)
      rw [this, made_eq _ (up_fix (valid_in hv) s hs)]
    · rw [if_neg hs, if_neg (fun h => hs h.2)]
  · rw [if_neg (by simp [hv]), if_neg (fun h => hv h.1)]
open Classical in
theorem impl_FixFamily_is (l : List Int) (s : Int) (hl : l.length < 9223372036854775807) (k : Nat) (hk : l.length * (l.length + 2) + l.length + 4700 < k) :
    impl_FixFamily.f k l s = if Valid l ∧ inS s = true then some (upto (leastB fun x => hasB l (anot x s)) 64, true) else some ([], false) := by
  rw [impl_FixFamily.f, isFamily_is l k hl (by omega), Option.bind_some]
  by_cases hv : Valid l
  · rw [if_pos (decide_eq_true hv), isSet_f, Option.bind_some]
    by_cases hs : inS s = true
    · rw [if_pos hs, if_pos ⟨hv, hs⟩, familyOf_f _ (fun x => hasB l (anot x s)) (fun x _ _ => by rw [impl_FixFamily_1.f, has_f l _ k hl (by omega)]; rfl) k (by omega)]; rfl
    · rw [if_neg hs, if_neg (fun h => hs h.2)]
  · rw [if_neg (by simp [hv]), if_neg (fun h => hv h.1)]
open Classical in
theorem spec_OutFamily_is (l : List Int) (s : Int) (hl : l.length < 9223372036854775807) (k : Nat) (hk : l.length * (l.length + 2) + l.length + 200 < k) :
    spec_OutFamily.f k l s = if Valid l ∧ inS s = true then some (upto (leastB fun x => hasB l (bor x s)) 64, true) else some ([], false) := by
  rw [spec_OutFamily.f, l5Family_is l k hl (by omega), Option.bind_some]
  by_cases hv : Valid l
  · rw [if_pos (decide_eq_true hv), l3Set_f, Option.bind_some]
    by_cases hs : inS s = true
    · rw [if_pos hs, if_pos ⟨hv, hs⟩]
      have : spec_OutFamily.l0 k s 0 (List.replicate 64 false) l = _ := out_l0 s l hl _ rfl 64 k 0 _ (by omega) (by simp) (by simp) (by omega)
      rw [this, made_eq _ (up_out (valid_in hv) s hs)]
    · rw [if_neg hs, if_neg (fun h => hs h.2)]
  · rw [if_neg (by simp [hv]), if_neg (fun h => hv h.1)]
open Classical in
theorem impl_OutFamily_is (l : List Int) (s : Int) (hl : l.length < 9223372036854775807) (k : Nat) (hk : l.length * (l.length + 2) + l.length + 4700 < k) :
    impl_OutFamily.f k l s = if Valid l ∧ inS s = true then some (upto (leastB fun x => hasB l (bor x s)) 64, true) else some ([], false) := by
  rw [impl_OutFamily.f, isFamily_is l k hl (by omega), Option.bind_some]
  by_cases hv : Valid l
  · rw [if_pos (decide_eq_true hv), isSet_f, Option.bind_some]
    by_cases hs : inS s = true
    · rw [if_pos hs, if_pos ⟨hv, hs⟩, familyOf_f _ (fun x => hasB l (bor x s)) (fun x _ _ => by rw [impl_OutFamily_1.f, has_f l _ k hl (by omega)]; rfl) k (by omega)]; rfl
    · rw [if_neg hs, if_neg (fun h => hs h.2)]
  · rw [if_neg (by simp [hv]), if_neg (fun h => hv h.1)]

/-! DualFamily -/
def allOf (n : Int) : Int := wrap64 ((shl .i64 1 n) - 1)
theorem allOf_in : ∀ n : Fin 7, inS (allOf ((n.val : Nat) : Int)) = true := by decide +kernel
theorem shr_iff : ∀ a : Fin 64, ∀ n : Fin 7, (decide (shr .i64 ((a.val : Nat) : Int) ((n.val : Nat) : Int) > 0)) = (Go.bits .andNot .i64 ((a.val : Nat) : Int) (allOf ((n.val : Nat) : Int)) != 0) := by decide +kernel
def within (l : List Int) (n : Int) : Bool := l.all fun a => !(decide (a < 0) || decide (shr .i64 a n > 0))
open Classical in
theorem within_l0 (l : List Int) (n : Int) (hn : 0 ≤ n) (hl : l.length < 9223372036854775807) : ∀ (d k i : Nat), i + d = l.length → d + l.length * (l.length + 2) + 1 < k →
    spec_l5Within.l0 k n (i : Int) l = some (((l.drop i).all fun a => !(decide (a < 0) || decide (shr .i64 a n > 0))) && decide (Valid l))
  | 0, k + 1, i, hi, hk => by
    have hi : i = l.length := by omega
    rw [spec_l5Within.l0, if_neg (by omega), l5Family_is l k hl (by omega)]
    simp [hi]
  | d + 1, k + 1, i, hi, hk => by
    have h : i < l.length := by omega
    have hd : l.drop i = l[i] :: l.drop (i + 1) := List.drop_eq_getElem_cons h
    rw [spec_l5Within.l0, if_pos (by omega), if_pos (by omega), rd_nat _ _ h, w64 _ (by omega), within_l0 l n hn hl d k (i + 1) (by omega) (by omega), hd]
    simp only [List.all_cons]
    by_cases h1 : l[i] < 0
    · simp [h1]
    · rw [if_neg h1, if_pos hn]
      by_cases h2 : shr .i64 l[i] n > 0
      · simp [h2]
      · rw [if_neg h2]; simp [h1, h2]
open Classical in
theorem within_f (l : List Int) (n : Int) (hn : 0 ≤ n) (hl : l.length < 9223372036854775807) (k : Nat) (hk : l.length + l.length * (l.length + 2) + 1 < k) : spec_l5Within.f k l n = some (within l n && decide (Valid l)) := by
  have : spec_l5Within.f k l n = _ := within_l0 l n hn hl l.length k 0 (by omega) hk
  rw [this]; rfl
theorem l1In_f (a b c : Int) : spec_l1In.f a b c = some (decide (b ≤ a ∧ a ≤ c)) := by
  unfold spec_l1In.f
  by_cases h : a ≥ b
  · rw [if_pos h]; congr 1; rw [Bool.eq_iff_iff]; simp; omega
  · rw [if_neg h]; congr 1; rw [Bool.eq_iff_iff]; simp; omega
open Classical in
theorem spec_DualFamily_is (l : List Int) (n : Int) (hl : l.length < 9223372036854775807) (k : Nat) (hk : l.length * (l.length + 2) + l.length + 200 < k) :
    spec_DualFamily.f k l n = if (0 ≤ n ∧ n ≤ 6) ∧ within l n = true ∧ Valid l then some (upto (leastB fun x => !hasB l (anot (allOf n) x)) 64, true) else some ([], false) := by
  rw [spec_DualFamily.f, l1In_f, Option.bind_some]
  by_cases hn : 0 ≤ n ∧ n ≤ 6
  · rw [if_pos (decide_eq_true hn), within_f l n hn.1 hl k (by omega), Option.bind_some]
    by_cases hw : within l n = true
    · by_cases hv : Valid l
      · rw [if_pos (by simp [hw, hv]), if_pos ⟨hn, hw, hv⟩, spec_l5Dual.f, if_pos hn.1]
        have : spec_l5Dual.l0 k (wrap64 ((shl .i64 1 n) - 1)) 0 (List.replicate 64 false) l = _ := dual_l0 (allOf n) l hl _ rfl 64 k 0 _ (by omega) (by simp) (by simp) (by omega)
        have ha : inS (allOf n) = true := by
          obtain ⟨m, rfl⟩ := Int.eq_ofNat_of_zero_le hn.1
          exact allOf_in ⟨m, by omega⟩
        rw [this, made_eq _ (up_dual (valid_in hv) _ ha)]; rfl
      · rw [if_neg (by simp [hv]), if_neg (fun h => hv h.2.2)]
    · rw [if_neg (by simp [hw]), if_neg (fun h => hw h.2.1)]
  · rw [if_neg (by simpa using hn), if_neg (fun h => hn h.1)]
theorem isFew_f (n : Int) : impl_isFew.f n = some (decide (0 ≤ n ∧ n ≤ 6)) := by
  unfold impl_isFew.f
  by_cases h : n ≥ 0
  · rw [if_pos h]; congr 1; rw [Bool.eq_iff_iff]; simp; omega
  · rw [if_neg h]; congr 1; rw [Bool.eq_iff_iff]; simp; omega
theorem within_eq (l : List Int) (n : Int) (hn : 0 ≤ n ∧ n ≤ 6) (hv : l.all inS = true) : (l.any fun a => Go.bits .andNot .i64 a (allOf n) != 0) = !within l n := by
  unfold within
  rw [List.not_all_eq_any_not, Bool.eq_iff_iff]
  simp only [List.any_eq_true, Bool.not_not]
  obtain ⟨m, rfl⟩ := Int.eq_ofNat_of_zero_le hn.1
  have key : ∀ a ∈ l, (Go.bits .andNot .i64 a (allOf (m : Int)) != 0) = (decide (a < 0) || decide (shr .i64 a (m : Int) > 0)) := by
    intro a ha
    have h := (inS_iff a).mp (List.all_eq_true.mp hv a ha)
    obtain ⟨b, rfl⟩ := Int.eq_ofNat_of_zero_le h.1
    have := shr_iff ⟨b, by omega⟩ ⟨m, by omega⟩
    simp only at this
    rw [this]
    have h2 : ¬ ((b : Int) < 0) := by omega
    simp [h2]
  constructor
  · rintro ⟨a, ha, h⟩; exact ⟨a, ha, by rw [← key a ha]; exact h⟩
  · rintro ⟨a, ha, h⟩; exact ⟨a, ha, by rw [key a ha]; exact h⟩
open Classical in
theorem impl_DualFamily_is (l : List Int) (n : Int) (hl : l.length < 9223372036854775807) (k : Nat) (hk : l.length * (l.length + 2) + l.length + 4700 < k) :
    impl_DualFamily.f k l n = if (0 ≤ n ∧ n ≤ 6) ∧ within l n = true ∧ Valid l then some (upto (leastB fun x => !hasB l (anot (allOf n) x)) 64, true) else some ([], false) := by
  rw [impl_DualFamily.f, isFamily_is l k hl (by omega), Option.bind_some]
  by_cases hv : Valid l
  · rw [if_pos (decide_eq_true hv), isFew_f, Option.bind_some]
    by_cases hn : 0 ≤ n ∧ n ≤ 6
    · rw [if_pos (decide_eq_true hn), if_pos hn.1]
      have e : slices_ContainsFunc_int_int.f k l (fun x_ => impl_DualFamily_1.f x_ (wrap64 ((shl .i64 1 n) - 1))) = some (!within l n) := by
        rw [ContainsFunc_f l (fun x_ => impl_DualFamily_1.f x_ (wrap64 ((shl .i64 1 n) - 1))) (fun a => Go.bits .andNot .i64 a (allOf n) != 0) (fun x _ => rfl) k hl (by omega), within_eq l n hn (valid_in hv)]
      rw [e, Option.bind_some]
      cases hw : within l n with
      | true =>
        rw [if_neg (by simp), if_pos ⟨hn, rfl, hv⟩, familyOf_f _ (fun x => !hasB l (anot (allOf n) x)) (fun x _ _ => by rw [impl_DualFamily_2.f, has_f l _ k hl (by omega)]; rfl) k (by omega)]; rfl
      | false => rw [if_pos (by simp), if_neg (by simp)]
    · rw [if_neg (by simpa using hn), if_neg (fun h => hn h.1)]
  · rw [if_neg (by simp [hv]), if_neg (fun h => hv h.2.2)]
end Go.Proofs.Ytncdgimmalifjaa.Q
