/- ThresholdFamily, of the program and of the reference, as plain functions of numbers. Conditions stand in each theorem. -/
import Derived.Test.YtncdgimmalifjaaQT
import Derived.Test.YtncdgimmalifjaaFB
namespace Go.Proofs.Ytncdgimmalifjaa.Q
open Go.RowKit Go.Proofs.YtncdgimmalifjaaW.PrintWords Go.Proofs.YtncdgimmalifjaaW.PrintLast Go.Proofs.YtncdgimmalifjaaW.PrintMore Go.Proofs.YtncdgimmalifjaaM Go.Proofs.Ytncdgimmalifjaa.K
set_option linter.unusedVariables false
set_option linter.unusedSimpArgs false
/-- how many nails from i on a set has -/
def pcF (x : Nat) : Nat → Nat → Nat
  | _, 0 => 0
  | i, d + 1 => (if x.testBit i then 1 else 0) + pcF x (i + 1) d
theorem many_f : ∀ x : Fin 64, impl_many.f ((x.val : Nat) : Int) = some ((pcF x.val 0 6 : Nat) : Int) := by decide +kernel
theorem l3In_f : ∀ x : Fin 64, ∀ i : Fin 6, spec_l3In.f ((x.val : Nat) : Int) ((i.val : Nat) + 1 : Int) = some (x.val.testBit i.val) := by decide +kernel
theorem l3Many_l0 (x : Fin 64) : ∀ (d k i : Nat) (m : Nat), i + d = 6 → d < k → m + d ≤ 100 → spec_l3Many.l0 k ((x.val : Nat) : Int) (m : Int) ((i + 1 : Nat) : Int) = some ((m + pcF x.val i d : Nat) : Int)
  | 0, k + 1, i, m, hi, _, _ => by
    rw [spec_l3Many.l0, if_neg (by omega)]; rfl
  | d + 1, k + 1, i, m, hi, hk, hm => by
    have h := l3In_f x ⟨i, by omega⟩
    simp only at h
    have e1 : ((i + 1 : Nat) : Int) = ((i : Nat) : Int) + 1 := by omega
    have e2 : wrap64 (((i + 1 : Nat) : Int) + 1) = ((i + 1 + 1 : Nat) : Int) := w64 _ (by omega)
    have e3 : wrap64 ((m : Int) + 1) = ((m + 1 : Nat) : Int) := w64 _ (by omega)
    rw [spec_l3Many.l0, if_pos (by omega), e2, e3, e1, h, Option.bind_some, pcF]
    cases x.val.testBit i with
    | true => simp only [if_true]; rw [l3Many_l0 x d k (i + 1) (m + 1) (by omega) (by omega) (by omega)]; congr 2; omega
    | false => simp only [Bool.false_eq_true, if_false]; rw [l3Many_l0 x d k (i + 1) m (by omega) (by omega) (by omega)]; congr 2; omega
theorem l3Many_f (x : Fin 64) (k : Nat) (hk : 6 < k) : spec_l3Many.f k ((x.val : Nat) : Int) = some ((pcF x.val 0 6 : Nat) : Int) := by
  have h : spec_l3Many.f k ((x.val : Nat) : Int) = some ((0 + pcF x.val 0 6 : Nat) : Int) := l3Many_l0 x 6 k 0 0 (by omega) hk (by omega)
  rw [h, Nat.zero_add]
theorem pcF_mono (y x : Nat) (h : y &&& x = y) : ∀ (d i : Nat), pcF y i d ≤ pcF x i d
  | 0, _ => Nat.le_refl _
  | d + 1, i => by
    have ih := pcF_mono y x h d (i + 1)
    have hb := congrArg (Nat.testBit · i) h
    simp only [Nat.testBit_and] at hb
    rw [pcF, pcF]
    revert hb
    cases y.testBit i <;> cases x.testBit i <;> simp <;> omega
def thr (n k x : Int) : Bool := decide (((pcF (Go.bits .and .i64 x (allOf n)).toNat 0 6 : Nat) : Int) ≥ k)
theorem and_in (n : Fin 7) (x : Fin 64) : ∃ t : Fin 64, Go.bits .and .i64 ((x.val : Nat) : Int) (allOf ((n.val : Nat) : Int)) = ((t.val : Nat) : Int) ∧ ∃ a : Nat, t.val = x.val &&& a ∧ allOf ((n.val : Nat) : Int) = (a : Int) := by
  have ha := (inS_iff _).1 (allOf_in n)
  obtain ⟨a, hA⟩ := Int.eq_ofNat_of_zero_le ha.1
  have h := and_nat x ⟨a, by omega⟩
  simp only at h
  have hl : x.val &&& a ≤ x.val := Nat.and_le_left
  exact ⟨⟨x.val &&& a, by omega⟩, by rw [hA, h], a, rfl, hA⟩
theorem up_thr (n : Fin 7) (k : Int) : up (thr ((n.val : Nat) : Int) k) := by
  intro y x hy hx h hp
  rw [inS_iff] at hy hx
  obtain ⟨y, rfl⟩ := Int.eq_ofNat_of_zero_le hy.1
  obtain ⟨x, rfl⟩ := Int.eq_ofNat_of_zero_le hx.1
  obtain ⟨t, ht, a, hta, hA⟩ := and_in n ⟨y, by omega⟩
  obtain ⟨u, hu, b, hub, hB⟩ := and_in n ⟨x, by omega⟩
  have hab : a = b := by have := hA.symm.trans hB; omega
  subst hab
  simp only at ht hu hta hub
  rw [pt_nat _ _ (by omega) (by omega)] at h
  simp only [beq_iff_eq] at h
  simp only [thr, ht, hu, Int.toNat_natCast, decide_eq_true_eq] at *
  have hm := pcF_mono t.val u.val (by
    rw [hta, hub]
    apply Nat.eq_of_testBit_eq
    intro i
    have hb := congrArg (Nat.testBit · i) h
    simp only [Nat.testBit_and] at *
    revert hb
    cases y.testBit i <;> cases x.testBit i <;> cases a.testBit i <;> simp) 6 0
  omega
theorem thr_l0 (n : Fin 7) (kk : Int) : ∀ (d k i : Nat) (m : List Bool), i + d = 64 → m.length = 64 → m.take i = ((List.range i).map fun j => thr ((n.val : Nat) : Int) kk ((j : Nat) : Int)) → d + 80 < k → spec_ThresholdFamily.l0 k ((n.val : Nat) : Int) kk (i : Int) m = some (upto (edgeB (thr ((n.val : Nat) : Int) kk)) 64, true)
  | 0, k + 1, i, m, hi, hm, ht, hk => by
    have hi : i = 64 := by omega
    have e : m.take i = m := List.take_of_length_le (by omega)
    rw [e, hi] at ht
    rw [spec_ThresholdFamily.l0, if_neg (by omega), ht]
    show (spec_l5Made.f k (tb (thr ((n.val : Nat) : Int) kk))).bind _ = _
    rw [l5Made_f _ k (by omega)]; rfl
  | d + 1, k + 1, i, m, hi, hm, ht, hk => by
    obtain ⟨t, h1, _⟩ := and_in n ⟨i, by omega⟩
    simp only at h1
    have h1' : Go.bits .and .i64 (i : Int) (wrap64 ((shl .i64 1 ((n.val : Nat) : Int)) - 1)) = ((t.val : Nat) : Int) := h1
    have e : decide (((pcF t.val 0 6 : Nat) : Int) ≥ kk) = thr ((n.val : Nat) : Int) kk (i : Int) := by unfold thr; rw [h1, Int.toNat_natCast]
    rw [spec_ThresholdFamily.l0, if_pos (by omega), if_pos (by omega), h1', l3Many_f t k (by omega), Option.bind_some, if_pos (by omega), w64 _ (by omega), e]
    refine thr_l0 n kk d k (i + 1) _ (by omega) (by simp [hm]) ?_ (by omega)
    rw [Int.toNat_natCast]
    exact set_range (thr ((n.val : Nat) : Int) kk) m i hm (by omega) ht
theorem spec_ThresholdFamily_is (n kk : Int) (k : Nat) (hk : 200 < k) : spec_ThresholdFamily.f k n kk = if (0 ≤ n ∧ n ≤ 6) ∧ 0 ≤ kk ∧ kk ≤ n + 1 then some (upto (leastB (thr n kk)) 64, true) else some ([], false) := by
  rw [spec_ThresholdFamily.f, l1In_f, Option.bind_some]
  by_cases hn : 0 ≤ n ∧ n ≤ 6
  · have e : wrap64 (n + 1) = n + 1 := by unfold wrap64; omega
    obtain ⟨m, rfl⟩ := Int.eq_ofNat_of_zero_le hn.1
    rw [if_pos (decide_eq_true hn), e, l1In_f, Option.bind_some]
    by_cases hq : 0 ≤ kk ∧ kk ≤ (m : Int) + 1
    · have h : spec_ThresholdFamily.l0 k (m : Int) kk 0 (List.replicate 64 false) = _ := thr_l0 ⟨m, by omega⟩ kk 64 k 0 _ (by omega) (by simp) (by simp) (by omega)
      rw [if_pos (decide_eq_true hq), if_pos ⟨hn, hq⟩, h, made_eq _ (up_thr ⟨m, by omega⟩ kk)]
    · rw [if_neg (by simpa using hq), if_neg (fun h => hq h.2)]
  · rw [if_neg (by simpa using hn), if_neg (fun h => hn h.1)]
theorem impl_ThresholdFamily_is (n kk : Int) (k : Nat) (hk : 4700 < k) : impl_ThresholdFamily.f k n kk = if (0 ≤ n ∧ n ≤ 6) ∧ 0 ≤ kk ∧ kk ≤ n + 1 then some (upto (leastB (thr n kk)) 64, true) else some ([], false) := by
  rw [impl_ThresholdFamily.f, isFew_f, Option.bind_some]
  by_cases hn : 0 ≤ n ∧ n ≤ 6
  · have e : wrap64 (n + 1) = n + 1 := by unfold wrap64; omega
    obtain ⟨m, rfl⟩ := Int.eq_ofNat_of_zero_le hn.1
    rw [if_pos (decide_eq_true hn)]
    by_cases hq : 0 ≤ kk ∧ kk ≤ (m : Int) + 1
    · have hg : ∀ x, 0 ≤ x → x < 64 → impl_ThresholdFamily_1.f x (m : Int) kk = some (thr (m : Int) kk x) := by
        intro x h0 h1
        obtain ⟨y, rfl⟩ := Int.eq_ofNat_of_zero_le h0
        obtain ⟨t, ht, _⟩ := and_in ⟨m, by omega⟩ ⟨y, by omega⟩
        simp only at ht
        have ht' : Go.bits .and .i64 (y : Int) (wrap64 ((shl .i64 1 (m : Int)) - 1)) = ((t.val : Nat) : Int) := ht
        rw [impl_ThresholdFamily_1.f, if_pos hn.1, ht', many_f t, Option.bind_some]
        unfold thr; rw [ht, Int.toNat_natCast]
      rw [if_neg (show ¬ kk < 0 by omega), e, if_neg (show ¬ kk > (m : Int) + 1 by omega), familyOf_f _ (thr (m : Int) kk) hg k (by omega), Option.bind_some, if_pos ⟨hn, hq⟩]
    · by_cases hk0 : kk < 0
      · rw [if_pos hk0, if_neg (fun h => hq h.2)]
      · rw [if_neg hk0, e, if_pos (show kk > (m : Int) + 1 by omega), if_neg (fun h => hq h.2)]
  · rw [if_neg (by simpa using hn), if_neg (fun h => hn h.1)]
end Go.Proofs.Ytncdgimmalifjaa.Q
