/- Valid families and their tables, as plain lists; that the program's and the reference's functions compute them. Conditions stand in each theorem. -/
import Derived.Test.YtlbhfbanbdahdaaQB
import Derived.Test.YtlbhfbanbdahdaaWD
namespace Go.Proofs.Ytlbhfbanbdahdaa.Q
open Go.RowKit Go.Proofs.YtlbhfbanbdahdaaW.PrintWords Go.Proofs.YtlbhfbanbdahdaaW.PrintLast Go.Proofs.YtlbhfbanbdahdaaW.PrintMore Go.Proofs.YtlbhfbanbdahdaaM Go.Proofs.Ytlbhfbanbdahdaa.K
set_option linter.unusedVariables false
set_option linter.unusedSimpArgs false
theorem l5Has_l0 (m : List Int) (x : Int) (hm : m.length < 9223372036854775807) : ∀ (n k i : Nat), i + n = m.length → n < k → spec_l5Has.l0 k x (i : Int) m = some ((m.drop i).any fun a => pt a x)
  | 0, k + 1, i, hi, _ => by
    have hi : i = m.length := by omega
    simp [spec_l5Has.l0, hi]
  | n + 1, k + 1, i, hi, hk => by
    have h : i < m.length := by omega
    have h' : (i : Int) < (m.length : Int) := by omega
    have hd : m.drop i = m[i] :: m.drop (i + 1) := List.drop_eq_getElem_cons h
    rw [spec_l5Has.l0, if_pos h', if_pos (by omega), rd_nat _ _ h, w64 _ (by omega), l5Has_l0 m x hm n k (i + 1) (by omega) (by omega), hd]
    simp only [spec_l5Part.f, Option.bind_some, List.any_cons]
    show (if pt m[i] x = true then _ else _) = _
    cases pt m[i] x <;> simp
theorem l5Has_f (m : List Int) (x : Int) (k : Nat) (hm : m.length < 9223372036854775807) (hk : m.length < k) : spec_l5Has.f k m x = some (m.any fun a => pt a x) := by
  have := l5Has_l0 m x hm m.length k 0 (by omega) hk
  simpa [spec_l5Has.f] using this

theorem isSet_f (a : Int) : impl_isSet.f a = some (inS a) := by
  unfold impl_isSet.f inS
  by_cases h : 0 ≤ a <;> simp [h]
theorem l3Set_f (a : Int) : spec_l3Set.f a = some (inS a) := by
  unfold spec_l3Set.f spec_l1In.f inS
  by_cases h : 0 ≤ a <;> simp [h] <;> omega
theorem has_f (m : List Int) (x : Int) (k : Nat) (hm : m.length < 9223372036854775807) (hk : m.length < k) : impl_Family_has.f k m x = some (m.any fun a => pt a x) := by
  rw [impl_Family_has.f, ContainsFunc_any m (fun a => impl_Family_has_1.f a x) (fun a => pt a x) (fun a _ => rfl) k hm hk]; rfl

theorem tableOf_l0 (g : Int → Option Bool) (p : Int → Bool) (hg : ∀ x, 0 ≤ x → x < 64 → g x = some (p x)) : ∀ (n k i : Nat) (m : List Bool), i + n = 64 → m.length = 64 → m.take i = ((List.range i).map fun j => p ((j : Nat) : Int)) → n < k → impl_tableOf.l0 k g (i : Int) m = some (tb p)
  | 0, k + 1, i, m, hi, hm, ht, _ => by
    have hi : i = 64 := by omega
    have : m.take i = m := List.take_of_length_le (by omega)
    rw [this] at ht
    simp [impl_tableOf.l0, hi, ht, tb]
  | n + 1, k + 1, i, m, hi, hm, ht, hk => by
    rw [impl_tableOf.l0, if_pos (by omega), hg _ (by omega) (by omega), Option.bind_some, if_pos (by omega), w64 _ (by omega)]
    refine tableOf_l0 g p hg n k (i + 1) _ (by omega) (by simp [hm]) ?_ (by omega)
    rw [Int.toNat_natCast]
    exact set_range p m i hm (by omega) ht
theorem tableOf_f (g : Int → Option Bool) (p : Int → Bool) (hg : ∀ x, 0 ≤ x → x < 64 → g x = some (p x)) (k : Nat) (hk : 64 < k) : impl_tableOf.f k g = some (tb p) :=
  tableOf_l0 g p hg 64 k 0 _ (by omega) (by simp) (by simp) hk

theorem l5Members_l0 (l : List Int) (hl : l.length < 9223372036854775807) : ∀ (n k i : Nat) (m : List Bool), i + n = 64 → m.length = 64 → m.take i = ((List.range i).map fun j => l.any fun a => pt a ((j : Nat) : Int)) → n + l.length + 1 < k → spec_l5Members.l0 k (i : Int) m l = some (tb fun x => l.any fun a => pt a x)
  | 0, k + 1, i, m, hi, hm, ht, _ => by
    have hi : i = 64 := by omega
    have : m.take i = m := List.take_of_length_le (by omega)
    rw [this] at ht
    simp [spec_l5Members.l0, hi, ht, tb]
  | n + 1, k + 1, i, m, hi, hm, ht, hk => by
    rw [spec_l5Members.l0, if_pos (by omega), l5Has_f _ _ _ hl (by omega), Option.bind_some, if_pos (by omega), w64 _ (by omega)]
    refine l5Members_l0 l hl n k (i + 1) _ (by omega) (by simp [hm]) ?_ (by omega)
    rw [Int.toNat_natCast]
    exact set_range (fun x => l.any fun a => pt a x) m i hm (by omega) ht
theorem l5Members_f (l : List Int) (hl : l.length < 9223372036854775807) (k : Nat) (hk : 65 + l.length < k) : spec_l5Members.f k l = some (tb fun x => l.any fun a => pt a x) :=
  l5Members_l0 l hl 64 k 0 _ (by omega) (by simp) (by simp) (by omega)

theorem up_has (l : List Int) (hl : l.all inS = true) : up fun x => l.any fun a => pt a x := by
  intro y x hy hx h hp
  simp only [List.any_eq_true] at *
  obtain ⟨a, ha, h1⟩ := hp
  exact ⟨a, ha, pt_trans a y x (List.all_eq_true.mp hl a ha) hy hx h1 h⟩

theorem w64s (i : Nat) (h : 0 < i) (h2 : i < 9223372036854775807) : wrap64 ((i : Int) - 1) = ((i - 1 : Nat) : Int) := by
  unfold wrap64; omega

/-- a set of a family is as it should be, as the reference looks at it and as the program does -/
def okS (l : List Int) (j : Nat) : Prop := inS (rd l j) = true ∧ (0 < j → rd l ((j - 1 : Nat) : Int) < rd l j) ∧ ∀ q : Nat, q < j → pt (rd l q) (rd l j) = false
def okI (l : List Int) (j : Nat) : Prop := inS (rd l j) = true ∧ (0 < j → rd l ((j - 1 : Nat) : Int) < rd l j) ∧ ∀ q : Nat, q < l.length → q ≠ j → pt (rd l q) (rd l j) = false
def Valid (l : List Int) : Prop := ∀ j, j < l.length → okS l j
theorem valid_up {l : List Int} (h : Valid l) (i : Nat) : ∀ d, i + d + 1 < l.length → rd l (i : Int) < rd l ((i + d + 1 : Nat) : Int)
  | 0, hd => by
    have := (h (i + 1) (by omega)).2.1 (by omega)
    simpa using this
  | d + 1, hd => by
    have h1 := valid_up h i d (by omega)
    have h2 := (h (i + (d + 1) + 1) hd).2.1 (by omega)
    have e : i + (d + 1) + 1 - 1 = i + d + 1 := by omega
    rw [e] at h2
    omega
theorem valid_iff (l : List Int) : Valid l ↔ ∀ j, j < l.length → okI l j := by
  constructor
  · intro h j hj
    refine ⟨(h j hj).1, (h j hj).2.1, fun q hq hn => ?_⟩
    by_cases hqj : q < j
    · exact (h j hj).2.2 q hqj
    · have h1 := valid_up h j (q - j - 1) (by omega)
      have e : j + (q - j - 1) + 1 = q := by omega
      rw [e] at h1
      cases hp : pt (rd l (q : Int)) (rd l (j : Int)) with
      | false => rfl
      | true =>
        have := pt_le _ _ (h q hq).1 (h j hj).1 hp
        omega
  · intro h j hj
    exact ⟨(h j hj).1, (h j hj).2.1, fun q hq => (h j hj).2.2 q (by omega) (by omega)⟩
theorem valid_in {l : List Int} (h : Valid l) : l.all inS = true := by
  rw [List.all_eq_true]
  intro a ha
  obtain ⟨j, hj, rfl⟩ := List.mem_iff_getElem.mp ha
  have := (h j hj).1
  rwa [rd_nat _ _ hj] at this

theorem l5Family_l1 (m : List Int) (x : Nat) (hx : x < m.length) (hm : m.length < 9223372036854775807) : ∀ (n k i : Nat), i + n = x → n < k →
    (spec_l5Family.l1 k (x : Int) (i : Int) m = some false ∧ ¬ ∀ q : Nat, i ≤ q → q < x → pt (rd m q) (rd m x) = false) ∨
    (spec_l5Family.l1 k (x : Int) (i : Int) m = spec_l5Family.l0 (k - n - 1) ((x + 1 : Nat) : Int) m ∧ ∀ q : Nat, i ≤ q → q < x → pt (rd m q) (rd m x) = false)
  | 0, k + 1, i, hi, _ => by
    right
    refine ⟨?_, fun q h1 h2 => by omega⟩
    rw [spec_l5Family.l1, if_neg (by omega), w64 _ (by omega)]
    rfl
  | n + 1, k + 1, i, hi, hk => by
    rw [spec_l5Family.l1, if_pos (by omega), if_pos (by omega), if_pos (by omega), if_pos (by omega), if_pos (by omega), w64 _ (by omega)]
    simp only [spec_l5Part.f, Option.bind_some]
    by_cases hp : pt (rd m i) (rd m x) = true
    · left
      have h2 : ((Go.bits .and .i64 (rd m i) (rd m x)) == rd m i) = true := hp
      refine ⟨by rw [if_pos h2], fun h => ?_⟩
      have := h i (Nat.le_refl _) (by omega)
      rw [hp] at this; cases this
    · have e : k + 1 - (n + 1) - 1 = k - n - 1 := by omega
      have hp' : pt (rd m i) (rd m x) = false := by simpa using hp
      have h2 : ¬ ((Go.bits .and .i64 (rd m i) (rd m x)) == rd m i) = true := hp
      rw [if_neg h2, e]
      rcases l5Family_l1 m x hx hm n k (i + 1) (by omega) (by omega) with ⟨h1, h3⟩ | ⟨h1, h3⟩
      · exact .inl ⟨h1, fun h => h3 fun q hq => h q (by omega)⟩
      · exact .inr ⟨h1, fun q hq hqx => by
          by_cases hqi : q = i
          · subst hqi; exact hp'
          · exact h3 q (by omega) hqx⟩
theorem l5Family_l0 (m : List Int) (hm : m.length < 9223372036854775807) : ∀ (n k i : Nat), i + n = m.length → n * (m.length + 2) < k →
    ∃ b, spec_l5Family.l0 k (i : Int) m = some b ∧ (b = true ↔ ∀ j, i ≤ j → j < m.length → okS m j)
  | 0, k + 1, i, hi, _ => ⟨true, by rw [spec_l5Family.l0, if_neg (by omega)], by simp; intro j h1 h2; omega⟩
  | n + 1, k + 1, i, hi, hk => by
    rw [Nat.succ_mul] at hk
    have hL : i < m.length := by omega
    rw [spec_l5Family.l0, if_pos (by omega), if_pos (by omega), l3Set_f, Option.bind_some]
    by_cases hs : inS (rd m i) = true
    · rw [if_pos hs]
      have tail : (0 < i → rd m ((i - 1 : Nat) : Int) < rd m i) → ∃ b, spec_l5Family.l1 k (i : Int) 0 m = some b ∧ (b = true ↔ ∀ j, i ≤ j → j < m.length → okS m j) := by
        intro ha
        rcases l5Family_l1 m i hL hm i k 0 (by omega) (by omega) with ⟨h1, h3⟩ | ⟨h1, h3⟩
        · refine ⟨false, h1, ?_⟩
          simp only [Bool.false_eq_true, false_iff]
          intro h
          exact h3 fun q _ hq => (h i (Nat.le_refl _) hL).2.2 q hq
        · obtain ⟨b, hb, hb2⟩ := l5Family_l0 m hm n (k - i - 1) (i + 1) (by omega) (by omega)
          refine ⟨b, h1.trans hb, hb2.trans ?_⟩
          constructor
          · intro h j h4 h5
            by_cases hj : j = i
            · subst hj; exact ⟨hs, ha, fun q hq => h3 q (by omega) hq⟩
            · exact h j (by omega) h5
          · intro h j h4 h5; exact h j (by omega) h5
      by_cases h0 : 0 < i
      · rw [if_pos (by omega), w64s i h0 (by omega), if_pos (by omega), if_pos (by omega)]
        by_cases hle : rd m i ≤ rd m ((i - 1 : Nat) : Int)
        · rw [if_pos hle]
          refine ⟨false, rfl, ?_⟩
          simp only [Bool.false_eq_true, false_iff]
          intro h
          have := (h i (Nat.le_refl _) hL).2.1 h0
          omega
        · rw [if_neg hle]; exact tail fun _ => by omega
      · rw [if_neg (by omega)]; exact tail fun h => absurd h h0
    · rw [if_neg hs]
      refine ⟨false, rfl, ?_⟩
      simp only [Bool.false_eq_true, false_iff]
      intro h
      exact hs (h i (Nat.le_refl _) hL).1
theorem l5Family_f (m : List Int) (k : Nat) (hm : m.length < 9223372036854775807) (hk : m.length * (m.length + 2) < k) : ∃ b, spec_l5Family.f k m = some b ∧ (b = true ↔ Valid m) := by
  obtain ⟨b, h1, h2⟩ := l5Family_l0 m hm m.length k 0 (by omega) hk
  exact ⟨b, h1, h2.trans ⟨fun h j hj => h j (by omega) hj, fun h j _ hj => h j hj⟩⟩

theorem isFamily_l1 (m : List Int) (x : Nat) (hx : x < m.length) (hm : m.length < 9223372036854775807) : ∀ (n k i : Nat), i + n = m.length → n < k →
    (impl_isFamily.l1 k (x : Int) (rd m x) m (m.length : Int) (x : Int) m (m.length : Int) (i : Int) m = some false ∧ ¬ ∀ q : Nat, i ≤ q → q < m.length → q ≠ x → pt (rd m q) (rd m x) = false) ∨
    (impl_isFamily.l1 k (x : Int) (rd m x) m (m.length : Int) (x : Int) m (m.length : Int) (i : Int) m = impl_isFamily.l0 (k - n - 1) m (m.length : Int) ((x + 1 : Nat) : Int) m ∧ ∀ q : Nat, i ≤ q → q < m.length → q ≠ x → pt (rd m q) (rd m x) = false)
  | 0, k + 1, i, hi, _ => by
    right
    refine ⟨?_, fun q h1 h2 => by omega⟩
    rw [impl_isFamily.l1, if_neg (by omega), w64 _ (by omega)]
    rfl
  | n + 1, k + 1, i, hi, hk => by
    have e : k + 1 - (n + 1) - 1 = k - n - 1 := by omega
    rw [impl_isFamily.l1, if_pos (by omega), if_pos (by omega), if_pos (by omega), w64 _ (by omega), e]
    by_cases hix : i = x
    · subst hix
      rw [if_pos rfl]
      rcases isFamily_l1 m i hx hm n k (i + 1) (by omega) (by omega) with ⟨h1, h3⟩ | ⟨h1, h3⟩
      · exact .inl ⟨h1, fun h => h3 fun q hq => h q (by omega)⟩
      · exact .inr ⟨h1, fun q hq hqx hn => h3 q (by omega) hqx hn⟩
    · rw [if_neg (by omega)]
      by_cases hp : pt (rd m i) (rd m x) = true
      · left
        have h2 : (Go.bits .and .i64 (rd m i) (rd m x)) = rd m i := by simpa [pt] using hp
        refine ⟨by rw [if_pos h2], fun h => ?_⟩
        have := h i (Nat.le_refl _) (by omega) hix
        rw [hp] at this; cases this
      · have hp' : pt (rd m i) (rd m x) = false := by simpa using hp
        have h2 : ¬ (Go.bits .and .i64 (rd m i) (rd m x)) = rd m i := by simpa [pt] using hp
        rw [if_neg h2]
        rcases isFamily_l1 m x hx hm n k (i + 1) (by omega) (by omega) with ⟨h1, h3⟩ | ⟨h1, h3⟩
        · exact .inl ⟨h1, fun h => h3 fun q hq => h q (by omega)⟩
        · exact .inr ⟨h1, fun q hq hqx hn => by
            by_cases hqi : q = i
            · subst hqi; exact hp'
            · exact h3 q (by omega) hqx hn⟩
theorem isFamily_l0 (m : List Int) (hm : m.length < 9223372036854775807) : ∀ (n k i : Nat), i + n = m.length → n * (m.length + 2) < k →
    ∃ b, impl_isFamily.l0 k m (m.length : Int) (i : Int) m = some b ∧ (b = true ↔ ∀ j, i ≤ j → j < m.length → okI m j)
  | 0, k + 1, i, hi, _ => ⟨true, by rw [impl_isFamily.l0, if_neg (by omega)], by simp; intro j h1 h2; omega⟩
  | n + 1, k + 1, i, hi, hk => by
    rw [Nat.succ_mul] at hk
    have hL : i < m.length := by omega
    rw [impl_isFamily.l0, if_pos (by omega), if_pos (by omega), if_pos (by omega), isSet_f, Option.bind_some]
    by_cases hs : inS (rd m i) = true
    · rw [if_pos hs]
      have tail : (0 < i → rd m ((i - 1 : Nat) : Int) < rd m i) → ∃ b, impl_isFamily.l1 k (i : Int) (rd m i) m (m.length : Int) (i : Int) m (m.length : Int) 0 m = some b ∧ (b = true ↔ ∀ j, i ≤ j → j < m.length → okI m j) := by
        intro ha
        rcases isFamily_l1 m i hL hm m.length k 0 (by omega) (by omega) with ⟨h1, h3⟩ | ⟨h1, h3⟩
        · refine ⟨false, h1, ?_⟩
          simp only [Bool.false_eq_true, false_iff]
          intro h
          exact h3 fun q _ hq hn => (h i (Nat.le_refl _) hL).2.2 q hq hn
        · obtain ⟨b, hb, hb2⟩ := isFamily_l0 m hm n (k - m.length - 1) (i + 1) (by omega) (by omega)
          refine ⟨b, h1.trans hb, hb2.trans ?_⟩
          constructor
          · intro h j h4 h5
            by_cases hj : j = i
            · subst hj; exact ⟨hs, ha, fun q hq hn => h3 q (by omega) hq hn⟩
            · exact h j (by omega) h5
          · intro h j h4 h5; exact h j (by omega) h5
      by_cases h0 : 0 < i
      · rw [if_pos (by omega), w64s i h0 (by omega), if_pos (by omega), if_pos (by omega)]
        by_cases hle : rd m i ≤ rd m ((i - 1 : Nat) : Int)
        · rw [if_pos hle]
          refine ⟨false, rfl, ?_⟩
          simp only [Bool.false_eq_true, false_iff]
          intro h
          have := (h i (Nat.le_refl _) hL).2.1 h0
          omega
        · rw [if_neg hle]; exact tail fun _ => by omega
      · rw [if_neg (by omega)]; exact tail fun h => absurd h h0
    · rw [if_neg hs]
      refine ⟨false, rfl, ?_⟩
      simp only [Bool.false_eq_true, false_iff]
      intro h
      exact hs (h i (Nat.le_refl _) hL).1
theorem isFamily_f (m : List Int) (k : Nat) (hm : m.length < 9223372036854775807) (hk : m.length * (m.length + 2) < k) : ∃ b, impl_isFamily.f k m = some b ∧ (b = true ↔ Valid m) := by
  obtain ⟨b, h1, h2⟩ := isFamily_l0 m hm m.length k 0 (by omega) hk
  exact ⟨b, h1, h2.trans ((valid_iff m).trans ⟨fun h j _ hj => h j hj, fun h j hj => h j (by omega) hj⟩).symm⟩
open Classical in
theorem l5Family_is (m : List Int) (k : Nat) (hm : m.length < 9223372036854775807) (hk : m.length * (m.length + 2) < k) : spec_l5Family.f k m = some (decide (Valid m)) := by
  obtain ⟨b, h1, h2⟩ := l5Family_f m k hm hk
  rw [h1]; congr 1; rw [Bool.eq_iff_iff, h2, decide_eq_true_iff]
open Classical in
theorem isFamily_is (m : List Int) (k : Nat) (hm : m.length < 9223372036854775807) (hk : m.length * (m.length + 2) < k) : impl_isFamily.f k m = some (decide (Valid m)) := by
  obtain ⟨b, h1, h2⟩ := isFamily_f m k hm hk
  rw [h1]; congr 1; rw [Bool.eq_iff_iff, h2, decide_eq_true_iff]

def hasB (l : List Int) (x : Int) : Bool := l.any fun a => pt a x
open Classical in
theorem spec_IsWordFor_is (w f : List Int) (hw : w.length < 9223372036854775807) (hf : f.length < 9223372036854775807) (k : Nat) (hk : 2 * w.length + f.length * (f.length + 2) + f.length + 300 < k) :
    spec_IsWordFor.f k w f = if okW w = true ∧ Valid f then some (tb (fallB w) == tb (hasB f), true) else some (false, false) := by
  rw [spec_IsWordFor.f, l2Word_f w k hw (by omega), Option.bind_some]
  by_cases h : okW w = true
  · rw [if_pos h, l5Family_is f k hf (by omega), Option.bind_some]
    by_cases hv : Valid f
    · rw [if_pos (decide_eq_true hv), if_pos ⟨h, hv⟩, l5Members_f f hf k (by omega), Option.bind_some, spec_l6For.f, l3Table_f w h k (by omega)]; rfl
    · rw [if_neg (by simp [hv]), if_neg (fun h2 => hv h2.2)]
  · rw [if_neg h, if_neg (fun h2 => h h2.1)]
open Classical in
theorem impl_IsWordFor_is (w f : List Int) (hw : w.length < 9223372036854775807) (hf : f.length < 9223372036854775807) (k : Nat) (hk : 2 * w.length + f.length * (f.length + 2) + f.length + 300 < k) :
    impl_IsWordFor.f k w f = if okW w = true ∧ Valid f then some (tb (fallB w) == tb (hasB f), true) else some (false, false) := by
  rw [impl_IsWordFor.f, isWord_f w k hw (by omega), Option.bind_some]
  by_cases h : okW w = true
  · rw [if_pos h, isFamily_is f k hf (by omega), Option.bind_some]
    by_cases hv : Valid f
    · rw [if_pos (decide_eq_true hv), if_pos ⟨h, hv⟩, fallTable_f w h k (by omega), Option.bind_some, impl_Family_table.f, tableOf_f _ (hasB f) (fun x _ _ => by rw [has_f f x k hf (by omega)]; rfl) k (by omega)]; rfl
    · rw [if_neg (by simp [hv]), if_neg (fun h2 => hv h2.2)]
  · rw [if_neg h, if_neg (fun h2 => h h2.1)]
end Go.Proofs.Ytlbhfbanbdahdaa.Q
