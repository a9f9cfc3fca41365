/- What a word falls for and what a family holds as the bits of a number; the words with a rule are counted alike. Conditions stand in each theorem. -/
import Derived.Test.YtlbhfbanbdahdaaWH
namespace Go.Proofs.Ytlbhfbanbdahdaa.Q
open Go.RowKit Go.Proofs.YtlbhfbanbdahdaaW.PrintWords Go.Proofs.YtlbhfbanbdahdaaW.PrintLast Go.Proofs.YtlbhfbanbdahdaaW.PrintMore Go.Proofs.YtlbhfbanbdahdaaM Go.Proofs.Ytlbhfbanbdahdaa.K
set_option linter.unusedVariables false
set_option linter.unusedSimpArgs false
/-- rounds enough -/
def bigK : Nat := 2000000000
theorem bigK_ge : 2000000000 ≤ bigK := Nat.le_refl _
attribute [irreducible] bigK
/-- the bits from one set on -/
def cg (p : Int → Bool) : Nat → Nat → Int → Int
  | 0, _, out => out
  | d + 1, i, out => cg p d (i + 1) (if p (i : Int) = true then Go.bits .or .i64 out (shl .i64 1 (i : Int)) else out)
def codeF (p : Int → Bool) (n : Nat) : Int := cg p (2 ^ n) 0 0
theorem shl1 (n : Nat) (h1 : 1 ≤ n) (h3 : n ≤ 3) : shl .i64 1 (n : Int) = ((2 ^ n : Nat) : Int) := by
  match n, h1, h3 with
  | 1, _, _ => decide
  | 2, _, _ => decide
  | 3, _, _ => decide
theorem pow8 (n : Nat) (h3 : n ≤ 3) : 2 ^ n ≤ 8 := by
  calc 2 ^ n ≤ 2 ^ 3 := Nat.pow_le_pow_right (by omega) h3
    _ = 8 := by decide
theorem ruleOf_l0 (w : List Int) (p : Int → Bool) (m : Nat) (hm : m ≤ 8) (K : Nat) (hf : ∀ k, K ≤ k → ∀ x : Nat, x < 8 → impl_falls.f k w (x : Int) = some (p (x : Int))) : ∀ (d k i : Nat) (out : Int), i + d = m → K + d < k →
    impl_ruleOf.l0 k w out (m : Int) (i : Int) = some (cg p d i out) := by
  intro d
  induction d with
  | zero =>
    intro k i out hi hk
    obtain ⟨k, rfl⟩ : ∃ k', k = k' + 1 := ⟨k - 1, by omega⟩
    rw [impl_ruleOf.l0, if_neg (by omega), cg]
  | succ d ih =>
    intro k i out hi hk
    obtain ⟨k, rfl⟩ : ∃ k', k = k' + 1 := ⟨k - 1, by omega⟩
    rw [impl_ruleOf.l0, if_pos (by omega), hf k (by omega) i (by omega), Option.bind_some, cg, w64 i (by omega)]
    by_cases hb : p (i : Int) = true
    · rw [if_pos hb, if_pos (by omega), if_pos hb, ih k (i + 1) _ (by omega) (by omega)]
    · rw [if_neg hb, if_neg hb, ih k (i + 1) _ (by omega) (by omega)]
theorem l7Code_l0 (w : List Int) (p : Int → Bool) (n : Nat) (h1 : 1 ≤ n) (h3 : n ≤ 3) (K : Nat) (hf : ∀ k, K ≤ k → ∀ x : Nat, x < 8 → spec_l3Falls.f k w (x : Int) = some (p (x : Int))) : ∀ (d k i : Nat) (out : Int), i + d = 2 ^ n → K + d < k →
    spec_l7Code.l0 k w (n : Int) out (i : Int) = some (cg p d i out) := by
  have h8 := pow8 n h3
  intro d
  induction d with
  | zero =>
    intro k i out hi hk
    obtain ⟨k, rfl⟩ : ∃ k', k = k' + 1 := ⟨k - 1, by omega⟩
    rw [spec_l7Code.l0, if_pos (by omega), shl1 n h1 h3, if_neg (by omega), cg]
  | succ d ih =>
    intro k i out hi hk
    obtain ⟨k, rfl⟩ : ∃ k', k = k' + 1 := ⟨k - 1, by omega⟩
    rw [spec_l7Code.l0, if_pos (by omega), shl1 n h1 h3, if_pos (by omega), hf k (by omega) i (by omega), Option.bind_some, cg, w64 i (by omega)]
    by_cases hb : p (i : Int) = true
    · rw [if_pos hb, if_pos (by omega), if_pos hb, ih k (i + 1) _ (by omega) (by omega)]
    · rw [if_neg hb, if_neg hb, ih k (i + 1) _ (by omega) (by omega)]
theorem rule_l0 (f : List Int) (p : Int → Bool) (m : Nat) (hm : m ≤ 8) (K : Nat) (hf : ∀ k, K ≤ k → ∀ x : Nat, x < 8 → impl_Family_has.f k f (x : Int) = some (p (x : Int))) : ∀ (d k i : Nat) (out : Int), i + d = m → K + d < k →
    impl_Family_rule.l0 k out (m : Int) (i : Int) f = some (cg p d i out) := by
  intro d
  induction d with
  | zero =>
    intro k i out hi hk
    obtain ⟨k, rfl⟩ : ∃ k', k = k' + 1 := ⟨k - 1, by omega⟩
    rw [impl_Family_rule.l0, if_neg (by omega), cg]
  | succ d ih =>
    intro k i out hi hk
    obtain ⟨k, rfl⟩ : ∃ k', k = k' + 1 := ⟨k - 1, by omega⟩
    rw [impl_Family_rule.l0, if_pos (by omega), hf k (by omega) i (by omega), Option.bind_some, cg, w64 i (by omega)]
    by_cases hb : p (i : Int) = true
    · rw [if_pos hb, if_pos (by omega), if_pos hb, ih k (i + 1) _ (by omega) (by omega)]
    · rw [if_neg hb, if_neg hb, ih k (i + 1) _ (by omega) (by omega)]
theorem l7Rule_l0 (f : List Int) (p : Int → Bool) (n : Nat) (h1 : 1 ≤ n) (h3 : n ≤ 3) (K : Nat) (hf : ∀ k, K ≤ k → ∀ x : Nat, x < 8 → spec_l5Has.f k f (x : Int) = some (p (x : Int))) : ∀ (d k i : Nat) (out : Int), i + d = 2 ^ n → K + d < k →
    spec_l7Rule.l0 k (n : Int) out (i : Int) f = some (cg p d i out) := by
  have h8 := pow8 n h3
  intro d
  induction d with
  | zero =>
    intro k i out hi hk
    obtain ⟨k, rfl⟩ : ∃ k', k = k' + 1 := ⟨k - 1, by omega⟩
    rw [spec_l7Rule.l0, if_pos (by omega), shl1 n h1 h3, if_neg (by omega), cg]
  | succ d ih =>
    intro k i out hi hk
    obtain ⟨k, rfl⟩ : ∃ k', k = k' + 1 := ⟨k - 1, by omega⟩
    rw [spec_l7Rule.l0, if_pos (by omega), shl1 n h1 h3, if_pos (by omega), hf k (by omega) i (by omega), Option.bind_some, cg, w64 i (by omega)]
    by_cases hb : p (i : Int) = true
    · rw [if_pos hb, if_pos (by omega), if_pos hb, ih k (i + 1) _ (by omega) (by omega)]
    · rw [if_neg hb, if_neg hb, ih k (i + 1) _ (by omega) (by omega)]
theorem falls8 (w : List Int) (hw : okW w = true) (k : Nat) (hk : 65 ≤ k) (x : Nat) (hx : x < 8) : impl_falls.f k w (x : Int) = some (fallB w (x : Int)) := falls_f w ⟨x, by omega⟩ hw k (by omega)
theorem l3Falls8 (w : List Int) (hw : okW w = true) (k : Nat) (hk : 131 ≤ k) (x : Nat) (hx : x < 8) : spec_l3Falls.f k w (x : Int) = some (fallB w (x : Int)) := l3Falls_f w ⟨x, by omega⟩ hw k (by omega)
theorem ruleOf_is (w : List Int) (hw : okW w = true) (n : Nat) (h1 : 1 ≤ n) (h3 : n ≤ 3) (k : Nat) (hk : 80 ≤ k) : impl_ruleOf.f k (n : Int) w = some (codeF (fallB w) n) := by
  have h8 := pow8 n h3
  rw [impl_ruleOf.f, if_pos (by omega), shl1 n h1 h3]
  exact ruleOf_l0 w (fallB w) (2 ^ n) h8 65 (fun k hk x hx => falls8 w hw k hk x hx) (2 ^ n) k 0 0 (by omega) (by omega)
theorem l7Code_is (w : List Int) (hw : okW w = true) (n : Nat) (h1 : 1 ≤ n) (h3 : n ≤ 3) (k : Nat) (hk : 150 ≤ k) : spec_l7Code.f k w (n : Int) = some (codeF (fallB w) n) := by
  have h8 := pow8 n h3
  exact l7Code_l0 w (fallB w) n h1 h3 131 (fun k hk x hx => l3Falls8 w hw k hk x hx) (2 ^ n) k 0 0 (by omega) (by omega)
theorem rule_is (f : List Int) (hf : f.length < 9223372036854775807) (n : Nat) (h1 : 1 ≤ n) (h3 : n ≤ 3) (k : Nat) (hk : f.length + 10 ≤ k) : impl_Family_rule.f k f (n : Int) = some (codeF (hasB f) n) := by
  have h8 := pow8 n h3
  rw [impl_Family_rule.f, if_pos (by omega), shl1 n h1 h3]
  exact rule_l0 f (hasB f) (2 ^ n) h8 (f.length + 1) (fun k hk x hx => has_f f _ k hf (by omega)) (2 ^ n) k 0 0 (by omega) (by omega)
theorem l7Rule_is (f : List Int) (hf : f.length < 9223372036854775807) (n : Nat) (h1 : 1 ≤ n) (h3 : n ≤ 3) (k : Nat) (hk : f.length + 10 ≤ k) : spec_l7Rule.f k f (n : Int) = some (codeF (hasB f) n) := by
  have h8 := pow8 n h3
  exact l7Rule_l0 f (hasB f) n h1 h3 (f.length + 1) (fun k hk x hx => l5Has_f f _ k hf (by omega)) (2 ^ n) k 0 0 (by omega) (by omega)
/-! which numbers are searched -/
def sB (n L : Int) : Prop := 1 ≤ n ∧ n ≤ 3 ∧ 0 ≤ L ∧ (n = 3 → L ≤ 5) ∧ L ≤ 8
instance (n L : Int) : Decidable (sB n L) := inferInstanceAs (Decidable (_ ∧ _ ∧ _ ∧ _ ∧ _))
theorem l7Search_is (n L : Int) : KB.spec_l7Search.f n L = some (decide (sB n L)) := by
  unfold KB.spec_l7Search.f KB.spec_l1In.f KB.spec_l7Bound.f
  by_cases h1 : n ≥ 1
  · rw [if_pos h1, Option.bind_some]
    by_cases h2 : n ≤ 3
    · rw [if_pos (by simpa using h2)]
      by_cases h3 : n = 3
      · rw [if_pos h3, Option.bind_some]
        by_cases h4 : L ≥ 0
        · rw [if_pos h4, Option.bind_some]; exact congrArg some (decide_eq_decide.2 (by unfold sB; omega))
        · rw [if_neg h4, Option.bind_some]; exact congrArg some (decide_eq_false (by unfold sB; omega)).symm
      · rw [if_neg h3, Option.bind_some]
        by_cases h4 : L ≥ 0
        · rw [if_pos h4, Option.bind_some]; exact congrArg some (decide_eq_decide.2 (by unfold sB; omega))
        · rw [if_neg h4, Option.bind_some]; exact congrArg some (decide_eq_false (by unfold sB; omega)).symm
    · rw [if_neg (by simpa using h2)]; exact congrArg some (decide_eq_false (by unfold sB; omega)).symm
  · rw [if_neg h1, Option.bind_some, if_neg (by simp)]; exact congrArg some (decide_eq_false (by unfold sB; omega)).symm
theorem longest_is (n : Int) (k : Nat) : KA.impl_longest.f (k + 1) n = some (if n = 1 ∨ n = 2 then 8 else if n = 3 then 5 else -1) := by
  unfold KA.impl_longest.f
  by_cases h1 : n = 1
  · rw [if_pos h1, KA.impl_longest.j0, if_pos (by simpa using h1), if_pos (.inl h1)]
  · rw [if_neg h1, KA.impl_longest.j0]
    by_cases h2 : n = 2
    · rw [if_pos (by simpa using h2), if_pos (.inr h2)]
    · rw [if_neg (by simpa using h2), if_neg (show ¬(n = 1 ∨ n = 2) by omega)]
      split <;> rfl
theorem isSearched_is (n L : Int) (k : Nat) (hk : 1 ≤ k) : KA.impl_isSearched.f k n L = some (decide (sB n L)) := by
  obtain ⟨k, rfl⟩ : ∃ k', k = k' + 1 := ⟨k - 1, by omega⟩
  unfold KA.impl_isSearched.f
  by_cases h : L ≥ 0
  · rw [if_pos h, longest_is, Option.bind_some]
    refine congrArg some (decide_eq_decide.2 ?_)
    unfold sB
    by_cases h2 : n = 1 ∨ n = 2
    · rw [if_pos h2]; omega
    · rw [if_neg h2]
      by_cases h3 : n = 3
      · rw [if_pos h3]; omega
      · rw [if_neg h3]; omega
  · rw [if_neg h]; exact congrArg some (decide_eq_false (by unfold sB; omega)).symm
/-! the counts -/
theorem cw_spec (n : Nat) (c : Int) (p : List Int → Bool) (xs : List (List Int)) (hp : ∀ w ∈ xs, ∃ v, KB.spec_l7Code.f w (n : Int) = some v ∧ (v = c ↔ p w = true)) (hx : xs.length < 1000000000) : ∀ (d k i q : Nat), i + d = xs.length → q ≤ i → d < k →
    KB.spec_CountWith.l0 k (n : Int) (q : Int) xs c (i : Int) = some (((q + (xs.drop i).countP p : Nat) : Int), true) := by
  intro d
  induction d with
  | zero =>
    intro k i q hi hq hk
    obtain ⟨k, rfl⟩ : ∃ k', k = k' + 1 := ⟨k - 1, by omega⟩
    rw [KB.spec_CountWith.l0, if_neg (by omega), List.drop_eq_nil_of_le (by omega)]; rfl
  | succ d ih =>
    intro k i q hi hq hk
    obtain ⟨k, rfl⟩ : ∃ k', k = k' + 1 := ⟨k - 1, by omega⟩
    have hil : i < xs.length := by omega
    obtain ⟨v, hv, hv2⟩ := hp xs[i] (List.getElem_mem hil)
    rw [KB.spec_CountWith.l0, if_pos (by omega), if_pos (by omega), rdL1 xs i hil, hv, Option.bind_some, w64 i (by omega), w64 q (by omega), List.drop_eq_getElem_cons hil, List.countP_cons]
    by_cases hc : v = c
    · rw [if_pos hc, if_pos (hv2.1 hc), ih k (i + 1) (q + 1) (by omega) (by omega) (by omega)]
      congr 2; omega
    · rw [if_neg hc, if_neg (fun h => hc (hv2.2 h)), ih k (i + 1) q (by omega) (by omega) (by omega)]
      congr 2
theorem cw_impl (n : Nat) (c : Int) (p : List Int → Bool) (xs : List (List Int)) (K : Nat) (hp : ∀ k, K ≤ k → ∀ w ∈ xs, ∃ v, impl_ruleOf.f k (n : Int) w = some v ∧ (v = c ↔ p w = true)) (hx : xs.length < 1000000000) : ∀ (d k i q : Nat), i + d = xs.length → q ≤ i → K + d < k →
    impl_CountWith.l0 k (n : Int) (q : Int) c xs (xs.length : Int) (i : Int) = some (((q + (xs.drop i).countP p : Nat) : Int), true) := by
  intro d
  induction d with
  | zero =>
    intro k i q hi hq hk
    obtain ⟨k, rfl⟩ : ∃ k', k = k' + 1 := ⟨k - 1, by omega⟩
    rw [impl_CountWith.l0, if_neg (by omega), List.drop_eq_nil_of_le (by omega)]; rfl
  | succ d ih =>
    intro k i q hi hq hk
    obtain ⟨k, rfl⟩ : ∃ k', k = k' + 1 := ⟨k - 1, by omega⟩
    have hil : i < xs.length := by omega
    obtain ⟨v, hv, hv2⟩ := hp k (by omega) xs[i] (List.getElem_mem hil)
    rw [impl_CountWith.l0, if_pos (by omega), if_pos (by omega), if_pos (by omega), rdOf_nat _ xs i hil, hv, Option.bind_some, w64 i (by omega), w64 q (by omega), List.drop_eq_getElem_cons hil, List.countP_cons]
    by_cases hc : v = c
    · rw [if_pos hc, if_pos (hv2.1 hc), ih k (i + 1) (q + 1) (by omega) (by omega) (by omega)]
      congr 2; omega
    · rw [if_neg hc, if_neg (fun h => hc (hv2.2 h)), ih k (i + 1) q (by omega) (by omega) (by omega)]
      congr 2
theorem itW_okW (n L : Nat) (h3 : n ≤ 3) (hL : L ≤ 8) : ∀ w ∈ itW n L [[]], okW w = true := by
  intro w hw
  have h := itW_ok (n := n) L 0 [[]] (by simp [Wd]) w hw
  rw [okW_iff]
  exact ⟨by rw [h.1]; omega, fun x hx => lts_let h3 (h.2 x hx)⟩
theorem itW_cap (n L : Nat) (h3 : n ≤ 3) (hL : L ≤ 8) : (itW n L [[]]).length ≤ 1679616 := by
  have h := itW_len h3 L [[]]
  have hp := pow6 L hL
  simp only [List.length_cons, List.length_nil] at h
  omega
/-- how many words have a family's rule -/
def cnt (f : List Int) (n L : Int) : Nat := (itW n.toNat L.toNat [[]]).countP fun w => codeF (fallB w) n.toNat == codeF (hasB f) n.toNat
open Classical in
theorem spec_CountWith_is (f : List Int) (n L : Int) (hf : f.length < 9223372036854775807) (k : Nat) (hk : 1500000000 ≤ k) :
    KB.spec_CountWith.f k f n L = if Valid f ∧ sB n L then some ((cnt f n L : Int), true) else some (0, false) := by
  obtain ⟨k, rfl⟩ : ∃ k', k = k' + 1 := ⟨k - 1, by omega⟩
  rw [KB.spec_CountWith.f, KB.spec_l5Family.f, l5Family_is f _ hf (by omega), Option.bind_some]
  by_cases hv : Valid f
  · rw [if_pos (decide_eq_true hv), l7Search_is, Option.bind_some]
    by_cases hs : sB n L
    · rw [if_pos ⟨hv, hs⟩, decide_eq_true hs]
      obtain ⟨m, rfl⟩ := Int.eq_ofNat_of_zero_le (show 0 ≤ n from by unfold sB at hs; omega)
      obtain ⟨l, rfl⟩ := Int.eq_ofNat_of_zero_le (show 0 ≤ L from by unfold sB at hs; omega)
      have h1 : 1 ≤ m := by unfold sB at hs; omega
      have h3 : m ≤ 3 := by unfold sB at hs; omega
      have hl : l ≤ 8 := by unfold sB at hs; omega
      rw [KB.spec_CountWith.j0, if_neg (by simp), all_is m l h3 hl k (by omega), Option.bind_some, KB.spec_l7Rule.f, l7Rule_is f hf m h1 h3 _ (by omega), Option.bind_some]
      have hc := itW_cap m l h3 hl
      have := cw_spec m (codeF (hasB f) m) (fun w => codeF (fallB w) m == codeF (hasB f) m) (itW m l [[]]) (fun w hw => ⟨codeF (fallB w) m, l7Code_is w (itW_okW m l h3 hl w hw) m h1 h3 500 (by omega), by rw [beq_iff_eq]⟩) (by omega) _ k 0 0 (Nat.zero_add _) (by omega) (by omega)
      rw [List.drop_zero, Nat.zero_add] at this
      exact this
    · rw [if_neg (fun h => hs h.2), decide_eq_false hs, KB.spec_CountWith.j0, if_pos (by simp)]
  · rw [if_neg (by simpa using hv), if_neg (fun h => hv h.1), KB.spec_CountWith.j0, if_pos rfl]
open Classical in
theorem impl_CountWith_is (f : List Int) (n L : Int) (hf : f.length < 9223372036854775807) (k : Nat) (hk : 1500000000 + f.length * (f.length + 2) ≤ k) (hk2 : f.length + 10 ≤ k) :
    impl_CountWith.f k f n L = if Valid f ∧ sB n L then some ((cnt f n L : Int), true) else some (0, false) := by
  rw [impl_CountWith.f, isFamily_is f _ hf (by omega), Option.bind_some]
  by_cases hv : Valid f
  · rw [if_pos (decide_eq_true hv), isSearched_is _ _ _ (by omega), Option.bind_some]
    by_cases hs : sB n L
    · rw [if_pos (decide_eq_true hs), if_pos ⟨hv, hs⟩]
      obtain ⟨m, rfl⟩ := Int.eq_ofNat_of_zero_le (show 0 ≤ n from by unfold sB at hs; omega)
      obtain ⟨l, rfl⟩ := Int.eq_ofNat_of_zero_le (show 0 ≤ L from by unfold sB at hs; omega)
      have h1 : 1 ≤ m := by unfold sB at hs; omega
      have h3 : m ≤ 3 := by unfold sB at hs; omega
      have hl : l ≤ 8 := by unfold sB at hs; omega
      rw [rule_is f hf m h1 h3 _ hk2, Option.bind_some, words_is m l h1 h3 hl k (by omega), Option.bind_some]
      have hc := itW_cap m l h3 hl
      have := cw_impl m (codeF (hasB f) m) (fun w => codeF (fallB w) m == codeF (hasB f) m) (itW m l [[]]) 80 (fun k hk w hw => ⟨codeF (fallB w) m, ruleOf_is w (itW_okW m l h3 hl w hw) m h1 h3 k hk, by rw [beq_iff_eq]⟩) (by omega) _ k 0 0 (Nat.zero_add _) (by omega) (by omega)
      rw [List.drop_zero, Nat.zero_add] at this
      exact this
    · rw [if_neg (by simpa using hs), if_neg (fun h => hs h.2)]
  · rw [if_neg (by simpa using hv), if_neg (fun h => hv h.1)]
end Go.Proofs.Ytlbhfbanbdahdaa.Q
