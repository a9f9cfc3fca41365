/- The program's WordAt and the reference's agree at every number of nails and every rank. No condition. -/
import Derived.Test.YtnpgegfffklcpaaPFnExactWordAtx3
import Derived.Test.YtnpgegfffklcpaaWB
namespace Go.Proofs.Ytnpgegfffklcpaa.PFnExactWordAt
open Go.RowKit Go.Proofs.YtnpgegfffklcpaaW.PrintWords Go.Proofs.YtnpgegfffklcpaaW.PrintLast
set_option linter.unusedVariables false
set_option linter.unusedSimpArgs false
set_option linter.unusedSectionVars false
theorem w64 (i : Nat) (h : i < 9223372036854775807) : wrap64 ((i : Int) + 1) = ((i + 1 : Nat) : Int) := by
  unfold wrap64; omega
theorem rd_nat (l : List Int) (i : Nat) (h : i < l.length) : rd l (i : Int) = l[i] := by
  simp [rd, h]
/-- marks one after the other -/
def marks : Int → Nat → List Int
  | _, 0 => []
  | m, n + 1 => m :: marks (m + 1) n
theorem marks_len : ∀ (n : Nat) (m : Int), (marks m n).length = n
  | 0, _ => rfl
  | n + 1, m => by simp [marks, marks_len n]
theorem bindS {α β : Type} {o : Option α} {a : α} {f : α → Option β} {r : Option β} (h : o = some a) (h2 : f a = r) : o.bind f = r := by
  rw [h]; exact h2
open Go.Proofs.Ytnpgegfffklcpaa.KW
theorem eqIntS_l0 (l : List Int) (hl : l.length < 9223372036854775807) : ∀ (n k i : Nat), i + n = l.length → n < k → laws_eqIntS.l0 k l l (i : Int) = some true
  | 0, k + 1, i, hi, _ => by
    have hi : i = l.length := by omega
    simp [laws_eqIntS.l0, hi]
  | n + 1, k + 1, i, hi, hk => by
    rw [laws_eqIntS.l0, if_pos (by omega), if_pos (by omega), if_pos (by omega), if_pos rfl, w64 _ (by omega)]
    exact eqIntS_l0 l hl n k (i + 1) (by omega) (by omega)
theorem eqIntS_f (l : List Int) (k : Nat) (hl : l.length ≤ 35184372088832) (hk : l.length < k) : laws_eqIntS.f k l l = some true := by
  rw [laws_eqIntS.f, if_pos rfl]
  exact eqIntS_l0 l (by omega) l.length k 0 (by omega) hk
theorem markIntS_l0 : ∀ (n k i : Nat) (l : List Int) (m : Int), l.length < 9223372036854775807 → i + n = l.length → n < k → 0 ≤ m → m + n < 9223372036854775807 → laws_markIntS.l0 k l m (i : Int) = some (m + n, l.take i ++ marks m n)
  | 0, k + 1, i, l, m, hl, hi, _, h0, hm => by
    have hi : i = l.length := by omega
    simp [laws_markIntS.l0, hi, marks]
  | n + 1, k + 1, i, l, m, hl, hi, hk, h0, hm => by
    have h : i < l.length := by omega
    have em : wrap64 (m + 1) = m + 1 := by unfold wrap64; omega
    rw [laws_markIntS.l0, if_pos (by omega), if_pos (by omega), w64 _ (by omega), Int.toNat_natCast, em, markIntS_l0 n k (i + 1) (l.set i m) (m + 1) (by simpa using hl) (by simp; omega) (by omega) (by omega) (by omega)]
    rw [List.take_add_one, List.take_set_of_le (Nat.le_refl _)]
    simp [h, marks]
    omega
theorem markIntS_f (l : List Int) (m : Int) (k : Nat) (hl : l.length ≤ 35184372088832) (hk : l.length < k) (h0 : 0 ≤ m) (hm : m ≤ 9000000000000000000) : laws_markIntS.f k l m = some (m + l.length, marks m l.length) := by
  have := markIntS_l0 l.length k 0 l m (by omega) (by omega) hk h0 (by omega)
  simpa [laws_markIntS.f] using this
theorem heldIntS_l0 (L : List Int) (hl : L.length < 9223372036854775807) : ∀ (n k i : Nat) (m : Int), L.drop i = marks m n → i + n = L.length → n < k → 0 ≤ m → m + n < 9223372036854775807 → laws_heldIntS.l0 k L m (i : Int) = some (m + n)
  | 0, k + 1, i, m, hd, hi, _, h0, hm => by
    have hi : i = L.length := by omega
    simp [laws_heldIntS.l0, hi]
  | n + 1, k + 1, i, m, hd, hi, hk, h0, hm => by
    have h : i < L.length := by omega
    have em : wrap64 (m + 1) = m + 1 := by unfold wrap64; omega
    rw [List.drop_eq_getElem_cons h, marks, List.cons.injEq] at hd
    rw [laws_heldIntS.l0, if_pos (by omega), if_pos (by omega), rd_nat _ _ h, if_pos hd.1, w64 _ (by omega), em, heldIntS_l0 L hl n k (i + 1) (m + 1) hd.2 (by omega) (by omega) (by omega) (by omega)]
    congr 1; omega
theorem heldIntS_f (m : Int) (n k : Nat) (hl : n ≤ 35184372088832) (hk : n < k) (h0 : 0 ≤ m) (hm : m ≤ 9000000000000000000) : laws_heldIntS.f k (marks m n) m = some (m + n) := by
  have := heldIntS_l0 (marks m n) (by rw [marks_len]; omega) n k 0 m (by simp) (by rw [marks_len]; omega) hk h0 (by omega)
  simpa [laws_heldIntS.f] using this
/-! counts, as the program caps them and the reference refuses them -/
def MX : Int := 1000000000000
def cap (x : Int) : Int := if x ≤ 1000000000000 then x else 1000000000001
def dB (x : Int) : Int := if x ≤ 1000000000000 then x else -1
def cnt (n : Int) : Nat → Int
  | 0 => 1
  | L + 1 => 2 * n * (2 * n - 1) ^ L
theorem pow_one_le (b : Int) (hb : 1 ≤ b) : ∀ d : Nat, 1 ≤ b ^ d
  | 0 => by simp
  | d + 1 => by
    have := pow_one_le b hb d
    rw [Int.pow_succ]
    have h := Int.mul_le_mul this hb (by omega) (by omega)
    simpa using h
theorem cap_mul (c b : Int) (hc : 0 ≤ c) (hb : 1 ≤ b) : cap (cap c * b) = cap (c * b) := by
  unfold cap
  by_cases h : c ≤ 1000000000000
  · rw [if_pos h]
  · rw [if_neg h]
    have h1 : (1000000000001 : Int) ≤ 1000000000001 * b := by omega
    have h2 : c ≤ c * b := by
      have := Int.mul_le_mul_of_nonneg_left hb hc
      rwa [Int.mul_one] at this
    rw [if_neg (by omega), if_neg (by omega)]
theorem times_f (a c : Int) (ha : 0 ≤ a) (hc : 1 ≤ c) (hc2 : c ≤ 1000000000000) : impl_times.f a c = some (cap (a * c)) := by
  have e : Int.tdiv (1000000000000 : Int) c = 1000000000000 / c := Int.tdiv_eq_ediv_of_nonneg (by omega)
  have h0 : 0 ≤ (1000000000000 : Int) / c := Int.ediv_nonneg (by omega) (by omega)
  have h1 : (1000000000000 : Int) / c ≤ 1000000000000 := Int.ediv_le_self _ (by omega)
  have e2 : wrap64 (1000000000000 / c) = 1000000000000 / c := by unfold wrap64; omega
  have hiff : a ≤ 1000000000000 / c ↔ a * c ≤ 1000000000000 := Int.le_ediv_iff_mul_le (by omega)
  rw [impl_times.f, if_neg (by omega), e, e2]
  unfold cap
  by_cases h : a * c ≤ 1000000000000
  · have h2 := hiff.2 h
    have h3 : 0 ≤ a * c := Int.mul_nonneg ha (by omega)
    have e3 : wrap64 (a * c) = a * c := by unfold wrap64; omega
    rw [if_neg (by omega), if_pos h, e3]
  · have h2 : ¬ a ≤ 1000000000000 / c := fun h2 => h (hiff.1 h2)
    rw [if_pos (by omega), if_neg h]
theorem cap_nonneg (x : Int) (h : 0 ≤ x) : 0 ≤ cap x := by unfold cap; split <;> omega
theorem cnt_succ (n : Int) (L : Nat) : cnt n (L + 2) = cnt n (L + 1) * (2 * n - 1) := by
  show 2 * n * (2 * n - 1) ^ (L + 1) = 2 * n * (2 * n - 1) ^ L * (2 * n - 1)
  rw [Int.pow_succ, ← Int.mul_assoc]
theorem cnt_pos (n : Int) (hn : 1 ≤ n) : ∀ L, 1 ≤ cnt n L
  | 0 => by simp [cnt]
  | L + 1 => by
    have := pow_one_le (2 * n - 1) (by omega) L
    have h := Int.mul_le_mul (show (1 : Int) ≤ 2 * n by omega) this (by omega) (by omega)
    simpa [cnt] using h
theorem wb (n : Int) (h1 : 1 ≤ n) (h6 : n ≤ 6) : wrap64 ((wrap64 (2 * n)) - 1) = 2 * n - 1 ∧ wrap64 (2 * n) = 2 * n := by
  constructor <;> (unfold wrap64; omega)
theorem countReduced_l0 (n : Int) (h1 : 1 ≤ n) (h6 : n ≤ 6) (L : Nat) (hL : L < 1000) : ∀ (d k i : Nat), i + d = L → d < k → impl_countReduced.l0 k n (cap (cnt n i)) (L : Int) (i : Int) = some (cap (cnt n L))
  | 0, k + 1, i, hi, _ => by
    have hi : i = L := by omega
    rw [impl_countReduced.l0, if_neg (by omega), hi]
  | d + 1, k + 1, i, hi, hk => by
    obtain ⟨e1, e2⟩ := wb n h1 h6
    have ih := countReduced_l0 n h1 h6 L hL d k (i + 1) (by omega) (by omega)
    rw [impl_countReduced.l0, if_pos (by omega), e1, e2, w64 _ (by omega)]
    cases i with
    | zero =>
      rw [if_pos (by simp)]
      have e : cap (cnt n (0 + 1)) = 2 * n := by
        have : cnt n (0 + 1) = 2 * n := by simp [cnt]
        rw [this]; unfold cap; rw [if_pos (by omega)]
      rw [e] at ih; exact ih
    | succ j =>
      have hp := cnt_pos n h1 (j + 1)
      rw [if_neg (by omega), times_f _ _ (cap_nonneg _ (by omega)) (by omega) (by omega), Option.bind_some, cap_mul _ _ (by omega) (by omega), ← cnt_succ]
      exact ih
theorem countReduced_f (n : Int) (h1 : 1 ≤ n) (h6 : n ≤ 6) (L k : Nat) (hL : L < 1000) (hk : L < k) : impl_countReduced.f k n (L : Int) = some (cap (cnt n L)) := by
  have := countReduced_l0 n h1 h6 L hL L k 0 (by omega) hk
  have e : cap (cnt n 0) = 1 := rfl
  rw [e] at this
  exact this
theorem tails_l0 (n : Int) (h1 : 1 ≤ n) (h6 : n ≤ 6) (L : Nat) (hL : L < 1000) : ∀ (d k i : Nat), i + d = L → d < k → impl_tails.l0 k n (cap ((2 * n - 1) ^ i)) (L : Int) (i : Int) = some (cap ((2 * n - 1) ^ L))
  | 0, k + 1, i, hi, _ => by
    have hi : i = L := by omega
    rw [impl_tails.l0, if_neg (by omega), hi]
  | d + 1, k + 1, i, hi, hk => by
    obtain ⟨e1, e2⟩ := wb n h1 h6
    have ih := tails_l0 n h1 h6 L hL d k (i + 1) (by omega) (by omega)
    have hp := pow_one_le (2 * n - 1) (by omega) i
    rw [impl_tails.l0, if_pos (by omega), e1, w64 _ (by omega), times_f _ _ (cap_nonneg _ (by omega)) (by omega) (by omega), Option.bind_some, cap_mul _ _ (by omega) (by omega), ← Int.pow_succ]
    exact ih
theorem tails_f (n : Int) (h1 : 1 ≤ n) (h6 : n ≤ 6) (L k : Nat) (hL : L < 1000) (hk : L < k) : impl_tails.f k n (L : Int) = some (cap ((2 * n - 1) ^ L)) := by
  have := tails_l0 n h1 h6 L hL L k 0 (by omega) hk
  have e : cap ((2 * n - 1) ^ 0) = 1 := by rw [Int.pow_zero]; rfl
  rw [e] at this
  exact this
theorem mul_big (m b : Int) (hm : 1000000000000 < m) (hb : 1 ≤ b) (d : Nat) : 1000000000000 < m * b ^ d := by
  have h := Int.mul_le_mul_of_nonneg_left (pow_one_le b hb d) (show 0 ≤ m by omega)
  rw [Int.mul_one] at h; omega
theorem mul_ge (m b : Int) (hm : 1 ≤ m) (hb : 1 ≤ b) : 1 ≤ m * b := by
  have h := Int.mul_le_mul hm hb (by omega) (by omega)
  simpa using h
theorem l7Reduced_l0 (n : Int) (h1 : 1 ≤ n) (h6 : n ≤ 6) (L : Nat) (hL : L < 1000) : ∀ (d k i : Nat) (m : Int), i + d = L → d < k → 1 ≤ m → m ≤ 1000000000000 → spec_l7Reduced.l0 k n (L : Int) m (i : Int) = some (dB (m * (2 * n - 1) ^ d))
  | 0, k + 1, i, m, hi, _, _, hm => by
    rw [spec_l7Reduced.l0, if_neg (by omega)]
    simp [dB, hm]
  | d + 1, k + 1, i, m, hi, hk, h0, hm => by
    obtain ⟨e1, e2⟩ := wb n h1 h6
    have hge := mul_ge m (2 * n - 1) h0 (by omega)
    have hub : m * (2 * n - 1) ≤ 1000000000000 * 11 := Int.mul_le_mul hm (by omega) (by omega) (by omega)
    have e3 : wrap64 (m * (2 * n - 1)) = m * (2 * n - 1) := by unfold wrap64; omega
    have e4 : m * (2 * n - 1) ^ (d + 1) = m * (2 * n - 1) * (2 * n - 1) ^ d := by rw [Int.pow_succ, Int.mul_comm ((2 * n - 1) ^ d), Int.mul_assoc]
    rw [spec_l7Reduced.l0, if_pos (by omega), e1, e3, w64 _ (by omega), e4]
    by_cases h : m * (2 * n - 1) > 1000000000000
    · have := mul_big _ (2 * n - 1) h (by omega) d
      rw [if_pos h]; unfold dB; rw [if_neg (by omega)]
    · rw [if_neg h, l7Reduced_l0 n h1 h6 L hL d k (i + 1) _ (by omega) (by omega) hge (by omega)]
theorem l7Reduced_f (n : Int) (h1 : 1 ≤ n) (h6 : n ≤ 6) (L k : Nat) (hL : L < 1000) (hk : L < k) : spec_l7Reduced.f k n (L : Int) = some (dB (cnt n L)) := by
  obtain ⟨e1, e2⟩ := wb n h1 h6
  rw [spec_l7Reduced.f]
  cases L with
  | zero => rw [if_pos (by simp)]; rfl
  | succ L =>
    rw [if_neg (by omega), e2]
    exact l7Reduced_l0 n h1 h6 (L + 1) hL L k 1 (2 * n) (by omega) (by omega) (by omega) (by omega)
theorem l7Behind_l0 (n : Int) (h1 : 1 ≤ n) (h6 : n ≤ 6) (L : Nat) (hL : L < 1000) : ∀ (d k i : Nat) (m : Int), i + d = L → d < k → 1 ≤ m → m ≤ 1000000000000 → spec_l7Behind.l0 k n (L : Int) m (i : Int) = some (dB (m * (2 * n - 1) ^ d))
  | 0, k + 1, i, m, hi, _, _, hm => by
    rw [spec_l7Behind.l0, if_neg (by omega)]
    simp [dB, hm]
  | d + 1, k + 1, i, m, hi, hk, h0, hm => by
    obtain ⟨e1, e2⟩ := wb n h1 h6
    have hge := mul_ge m (2 * n - 1) h0 (by omega)
    have hub : m * (2 * n - 1) ≤ 1000000000000 * 11 := Int.mul_le_mul hm (by omega) (by omega) (by omega)
    have e3 : wrap64 (m * (2 * n - 1)) = m * (2 * n - 1) := by unfold wrap64; omega
    have e4 : m * (2 * n - 1) ^ (d + 1) = m * (2 * n - 1) * (2 * n - 1) ^ d := by rw [Int.pow_succ, Int.mul_comm ((2 * n - 1) ^ d), Int.mul_assoc]
    rw [spec_l7Behind.l0, if_pos (by omega), e1, e3, w64 _ (by omega), e4]
    by_cases h : m * (2 * n - 1) > 1000000000000
    · have := mul_big _ (2 * n - 1) h (by omega) d
      rw [if_pos h]; unfold dB; rw [if_neg (by omega)]
    · rw [if_neg h, l7Behind_l0 n h1 h6 L hL d k (i + 1) _ (by omega) (by omega) hge (by omega)]
theorem l7Behind_f (n : Int) (h1 : 1 ≤ n) (h6 : n ≤ 6) (L k : Nat) (hL : L < 1000) (hk : L < k) : spec_l7Behind.f k n (L : Int) = some (dB ((2 * n - 1) ^ L)) := by
  have := l7Behind_l0 n h1 h6 L hL L k 0 1 (by omega) hk (by omega) (by omega)
  rw [Int.one_mul] at this
  exact this
/-! letters in their order -/
def lett (k : Nat) : Int := if k % 2 = 0 then ((k / 2 : Nat) : Int) + 1 else -(((k / 2 : Nat) : Int) + 1)
theorem letter_all : ∀ k : Fin 12, spec_l7Letter.f ((k.val : Nat) : Int) = some (lett k.val) := by decide +kernel
/-! the letter with a number among those that may stand behind p, and the letters with a rank -/
def nth (p : Int) : Nat → Nat → Nat → Option Int
  | _, 0, _ => none
  | a, d + 1, q => if lett a = -p then nth p (a + 1) d q else if q = 0 then some (lett a) else nth p (a + 1) d (q - 1)
theorem ch_all : ∀ n : Fin 6, ∀ p : Fin 13, ((((p.val : Int) - 6).natAbs : Nat) : Int) ≤ (n.val : Int) + 1 →
    ((impl_choices.f ((n.val : Int) + 1) ((p.val : Int) - 6)).bind fun t => if (t.length : Int) = (if (p.val : Int) - 6 = 0 then 2 * ((n.val : Int) + 1) else 2 * ((n.val : Int) + 1) - 1) ∧ (∀ q : Fin 12, q.val < t.length → nth ((p.val : Int) - 6) 0 (2 * (n.val + 1)) q.val = some (rd t (q.val : Int))) then some true else none) = some true := by decide +kernel
theorem ch_f (n p : Int) (h1 : 1 ≤ n) (h6 : n ≤ 6) (hp : (p.natAbs : Int) ≤ n) : ∃ t, impl_choices.f n p = some t ∧ (t.length : Int) = (if p = 0 then 2 * n else 2 * n - 1) ∧ ∀ q : Nat, q < t.length → nth p 0 (2 * n.toNat) q = some (rd t (q : Int)) := by
  have en : (((n - 1).toNat : Nat) : Int) + 1 = n := by omega
  have ep : (((p + 6).toNat : Nat) : Int) - 6 = p := by omega
  have e2 : 2 * ((n - 1).toNat + 1) = 2 * n.toNat := by omega
  have h := ch_all ⟨(n - 1).toNat, by omega⟩ ⟨(p + 6).toNat, by omega⟩
  simp only [en, ep, e2] at h
  obtain ⟨t, ht, h2⟩ := Option.bind_eq_some_iff.1 (h hp)
  by_cases hc : (t.length : Int) = (if p = 0 then 2 * n else 2 * n - 1) ∧ (∀ q : Fin 12, q.val < t.length → nth p 0 (2 * n.toNat) q.val = some (rd t (q.val : Int)))
  · refine ⟨t, ht, hc.1, fun q hq => hc.2 ⟨q, ?_⟩ hq⟩
    have := hc.1
    split at this <;> omega
  · rw [if_neg hc] at h2; cases h2
theorem nth_in (n p : Int) (h6 : n ≤ 6) : ∀ (d a q : Nat) (y : Int), a + d ≤ 2 * n.toNat → nth p a d q = some y → (y.natAbs : Int) ≤ n ∧ y ≠ 0
  | 0, _, _, _, _, h => by cases h
  | d + 1, a, q, y, hd, h => by
    rw [nth] at h
    split at h
    · exact nth_in n p h6 d (a + 1) q y (by omega) h
    · split at h
      · have := Option.some.inj h
        rw [← this]
        unfold lett
        split <;> omega
      · exact nth_in n p h6 d (a + 1) _ y (by omega) h
/-- the letters with a rank, d of them still to come -/
def un (n : Int) : Nat → Int → Int → List Int → Option (List Int)
  | 0, _, _, out => some out
  | d + 1, r, p, out => (nth p 0 (2 * n.toNat) (r / (2 * n - 1) ^ d).toNat).bind fun y => un n d (r % (2 * n - 1) ^ d) y (out ++ [y])
theorem lett_small (a : Nat) (h : a < 12) : lett a ≠ 0 ∧ (lett a).natAbs ≤ 6 := by unfold lett; split <;> omega
theorem div_step (r B : Int) (hB : 1 ≤ B) (h : B ≤ r) : (r - B) % B = r % B ∧ 1 ≤ r / B ∧ (r / B).toNat - 1 = ((r - B) / B).toNat ∧ 0 ≤ r - B ∧ ¬ (r / B).toNat = 0 := by
  have h2 : (r - B) / B = r / B - 1 := by
    have := Int.add_mul_ediv_right r (-1) (show B ≠ 0 by omega)
    rw [show r - B = r + -1 * B by omega, this]; omega
  have h4 : 1 ≤ r / B := by
    have := Int.ediv_le_ediv (show 0 < B by omega) h
    rwa [Int.ediv_self (by omega)] at this
  exact ⟨Int.sub_emod_right r B, h4, by omega, by omega, by omega⟩
theorem wsub (r B : Int) (hr : r ≤ 1000000000000) (hB : 1 ≤ B) (h : 0 ≤ r - B) : wrap64 (r - B) = r - B := by unfold wrap64; omega
theorem w2n (n : Int) (h1 : 1 ≤ n) (h6 : n ≤ 6) : wrap64 (2 * n) = 2 * n := by unfold wrap64; omega
theorem wim (i : Nat) (hi : i < 64) : wrap64 ((i : Int) - 1) = (i : Int) - 1 := by unfold wrap64; omega
theorem wng (p : Int) (h : p.natAbs ≤ 6) : wrap64 (-p) = -p := by unfold wrap64; omega
theorem a_lt (a d : Nat) (n : Int) (ha : a + (d + 1) = 2 * n.toNat) : (a : Int) < 2 * n := by omega
theorem a_12 (a d : Nat) (n : Int) (h6 : n ≤ 6) (ha : a + (d + 1) = 2 * n.toNat) : a < 12 := by omega
theorem st_hj (n : Int) (h1 : 1 ≤ n) (h6 : n ≤ 6) (L i : Nat) (out : List Int) (ho : out.length = i) (p : Int) (hp6 : p.natAbs ≤ 6)
    (hp : (i = 0 ∧ p = 0) ∨ (0 < i ∧ p = rd out ((i : Int) - 1))) (hi : i < 64) (B r : Int) (k a d : Nat) (ha : a + (d + 1) = 2 * n.toNat) :
    spec_WordAt.l2 (k + 1) n r (L : Int) out (i : Int) B (a : Int) = spec_WordAt.j5 k n r (L : Int) out (i : Int) B (a : Int) (decide (lett a = -p)) := by
  have hlt := letter_all ⟨a, a_12 a d n h6 ha⟩
  have hls := (lett_small a (a_12 a d n h6 ha)).1
  simp only at hlt
  rw [spec_WordAt.l2, w2n n h1 h6, if_pos (a_lt a d n ha)]
  rcases hp with ⟨hz, hp0⟩ | ⟨hz, hp0⟩
  · have h0 : ¬ ((i : Int) > 0) := by omega
    have h2 : ¬ lett a = -p := by rw [hp0]; exact hls
    rw [if_neg h0, decide_eq_false h2]
  · have h0 : (i : Int) > 0 := by omega
    have h2 : 0 ≤ (i : Int) - 1 := by omega
    have h3 : (i : Int) - 1 < (out.length : Int) := by omega
    rw [if_pos h0, hlt, Option.bind_some, wim i hi, if_pos h2, if_pos h3, ← hp0, wng p hp6]
    rfl
theorem st_skip (n : Int) (L i : Nat) (out : List Int) (B r : Int) (k a : Nat) (ha : a < 12) :
    spec_WordAt.j5 (k + 1) n r (L : Int) out (i : Int) B (a : Int) true = spec_WordAt.l2 k n r (L : Int) out (i : Int) B ((a + 1 : Nat) : Int) := by
  rw [spec_WordAt.j5, if_pos rfl, w64 a (by omega)]
theorem st_pick (n : Int) (L i : Nat) (hi : i < 64) (out : List Int) (ho : out.length = i) (B r : Int) (k a : Nat) (ha : a < 12) (hB : B < 0 ∨ r < B) :
    spec_WordAt.j5 (k + 1) n r (L : Int) out (i : Int) B (a : Int) false = spec_WordAt.l1 k n r (L : Int) (out ++ [lett a]) ((i + 1 : Nat) : Int) := by
  have hlt := letter_all ⟨a, ha⟩
  simp only at hlt
  have hlen : out.length < 17592186044416 := by omega
  rw [spec_WordAt.j5, if_neg Bool.false_ne_true, w64 i (by omega)]
  by_cases hb : B < 0
  · rw [if_pos hb, hlt, Option.bind_some, if_pos hlen]
  · have hr : r < B := by omega
    rw [if_neg hb, if_pos hr, hlt, Option.bind_some, if_pos hlen]
theorem st_next (n : Int) (L i : Nat) (out : List Int) (B r : Int) (k a : Nat) (ha : a < 12) (hB : ¬ B < 0) (hr : ¬ r < B) (hw : wrap64 (r - B) = r - B) :
    spec_WordAt.j5 (k + 1) n r (L : Int) out (i : Int) B (a : Int) false = spec_WordAt.l2 k n (r - B) (L : Int) out (i : Int) B ((a + 1 : Nat) : Int) := by
  rw [spec_WordAt.j5, if_neg Bool.false_ne_true, w64 a (by omega), if_neg hB, if_neg hr, hw]
theorem step_l2 (n : Int) (h1 : 1 ≤ n) (h6 : n ≤ 6) (L i : Nat) (hL : L ≤ 64) (out : List Int) (ho : out.length = i) (p : Int) (hp6 : p.natAbs ≤ 6)
    (hp : (i = 0 ∧ p = 0) ∨ (0 < i ∧ p = rd out ((i : Int) - 1))) (hi : i < 64) (B : Int) (hB : 1 ≤ B) (d : Nat) :
    ∀ (k a : Nat) (r y : Int), a + d = 2 * n.toNat → 2 * d + 10 < k → 0 ≤ r → r ≤ 1000000000000 → nth p a d (r / B).toNat = some y →
      ∃ k', k ≤ k' + 2 * d ∧ spec_WordAt.l2 k n r (L : Int) out (i : Int) (dB B) (a : Int) = spec_WordAt.l1 k' n (r % B) (L : Int) (out ++ [y]) ((i + 1 : Nat) : Int) := by
  induction d with
  | zero => intro _ _ _ _ _ _ _ _ h; rw [nth] at h; cases h
  | succ d ih =>
    intro k a r y ha hk h0 hr h
    obtain ⟨k, rfl⟩ : ∃ m, k = m + 2 := ⟨k - 2, by omega⟩
    have ha12 := a_12 a d n h6 ha
    rw [st_hj n h1 h6 L i out ho p hp6 hp hi (dB B) r (k + 1) a d ha]
    rw [nth] at h
    by_cases hs : lett a = -p
    · rw [if_pos hs] at h
      rw [decide_eq_true hs, st_skip n L i out (dB B) r k a ha12]
      obtain ⟨k', hk', h'⟩ := ih k (a + 1) r y (by omega) (by omega) h0 hr h
      exact ⟨k', by omega, h'⟩
    · rw [if_neg hs] at h
      rw [decide_eq_false hs]
      by_cases hb : B ≤ 1000000000000
      · have eb : dB B = B := if_pos hb
        rw [eb]
        by_cases hq : r < B
        · have h2 : r / B = 0 := Int.ediv_eq_zero_of_lt h0 hq
          rw [h2, if_pos (by rfl)] at h
          rw [st_pick n L i hi out ho B r k a ha12 (.inr hq), Int.emod_eq_of_lt h0 hq, Option.some.inj h]
          exact ⟨k, by omega, rfl⟩
        · obtain ⟨h3, h4, h2, h5, h7⟩ := div_step r B hB (by omega)
          rw [if_neg h7, h2] at h
          obtain ⟨k', hk', h'⟩ := ih k (a + 1) (r - B) y (by omega) (by omega) h5 (by omega) h
          rw [st_next n L i out B r k a ha12 (by omega) hq (wsub r B hr hB h5), ← h3]
          rw [eb] at h'
          exact ⟨k', by omega, h'⟩
      · have eb : dB B = -1 := if_neg hb
        have h2 : r / B = 0 := Int.ediv_eq_zero_of_lt h0 (by omega)
        rw [h2, if_pos (by rfl)] at h
        rw [eb, st_pick n L i hi out ho (-1) r k a ha12 (.inl (by decide)), Int.emod_eq_of_lt h0 (by omega), Option.some.inj h]
        exact ⟨k, by omega, rfl⟩
theorem lcount (n : Int) (h1 : 1 ≤ n) (d i : Nat) : cnt n (i + 1) = (if i = 0 then 2 * n else 2 * n) * (2 * n - 1) ^ i := by
  split <;> rfl
theorem ub_div (r c B : Int) (h0 : 0 ≤ r) (hB : 1 ≤ B) (h : r < c * B) : 0 ≤ r / B ∧ r / B < c := by
  constructor
  · exact Int.ediv_nonneg h0 (by omega)
  · exact Int.ediv_lt_of_lt_mul (by omega) h
theorem ub_mod (r B : Int) (hB : 1 ≤ B) : 0 ≤ r % B ∧ r % B < B := ⟨Int.emod_nonneg _ (by omega), Int.emod_lt_of_pos _ (by omega)⟩
theorem wr_len (L i d : Nat) (h : i + (d + 1) = L) (hL : L ≤ 64) : wrap64 (wrap64 ((L : Int) - 1) - (i : Int)) = (d : Int) := by unfold wrap64; omega
def lets (n : Int) (i : Nat) : Int := if i = 0 then 2 * n else 2 * n - 1
/-- what is known of the letter that stands ahead -/
def ahead (out : List Int) (i : Nat) (p : Int) : Prop := (i = 0 ∧ p = 0) ∨ (0 < i ∧ p ≠ 0 ∧ p = rd out ((i : Int) - 1))
theorem ahead_next (out : List Int) (i : Nat) (hi : out.length = i) (y : Int) (hy : y ≠ 0) : ahead (out ++ [y]) (i + 1) y := by
  refine .inr ⟨by omega, hy, ?_⟩
  have e : ((i + 1 : Nat) : Int) - 1 = ((i : Nat) : Int) := by omega
  rw [e, rd_nat _ _ (by simp; omega)]
  simp [hi]
theorem pick_y (n : Int) (h1 : 1 ≤ n) (h6 : n ≤ 6) (p : Int) (hp : (p.natAbs : Int) ≤ n) (q : Int) (h0 : 0 ≤ q) (hq : q < (if p = 0 then 2 * n else 2 * n - 1)) :
    ∃ t y, impl_choices.f n p = some t ∧ q < (t.length : Int) ∧ rd t q = y ∧ nth p 0 (2 * n.toNat) q.toNat = some y ∧ (y.natAbs : Int) ≤ n ∧ y ≠ 0 := by
  obtain ⟨t, ht, hl, hn⟩ := ch_f n p h1 h6 hp
  have hq2 : q.toNat < t.length := by omega
  have h := hn q.toNat hq2
  have e : ((q.toNat : Nat) : Int) = q := by omega
  rw [e] at h
  obtain ⟨ha, hb⟩ := nth_in n p h6 (2 * n.toNat) 0 q.toNat _ (by omega) h
  exact ⟨t, _, ht, by omega, rfl, h, ha, hb⟩
theorem emod_le (r B : Int) (h0 : 0 ≤ r) (hB : 1 ≤ B) : r % B ≤ r := by
  have h := Int.emod_lt_of_pos r (show 0 < B by omega)
  by_cases hr : r < B
  · rw [Int.emod_eq_of_lt h0 hr]; exact Int.le_refl _
  · omega
theorem nexts (n r : Int) (h0 : 0 ≤ r) (d i : Nat) (hB : 1 ≤ (2 * n - 1) ^ d) : 0 < d → r % (2 * n - 1) ^ d < lets n (i + 1) * (2 * n - 1) ^ (d - 1) := by
  intro hd
  obtain ⟨m0, m1⟩ := ub_mod r _ hB
  have e : (2 * n - 1) ^ d = lets n (i + 1) * (2 * n - 1) ^ (d - 1) := by
    obtain ⟨d', rfl⟩ : ∃ d', d = d' + 1 := ⟨d - 1, by omega⟩
    rw [Nat.add_sub_cancel, Int.pow_succ, Int.mul_comm]
    unfold lets
    rw [if_neg (by omega)]
  rw [← e]; exact m1
theorem lets_p (n : Int) (out : List Int) (i : Nat) (p : Int) (ha : ahead out i p) : lets n i = if p = 0 then 2 * n else 2 * n - 1 := by
  unfold lets
  rcases ha with ⟨a1, a2⟩ | ⟨a1, a2, _⟩
  · rw [if_pos a1, if_pos a2]
  · rw [if_neg (by omega), if_neg a2]
theorem one_round (n : Int) (h1 : 1 ≤ n) (h6 : n ≤ 6) (d i : Nat) (r p : Int) (out : List Int) (ha : ahead out i p) (hp : (p.natAbs : Int) ≤ n) (h0 : 0 ≤ r) (hlt : r < lets n i * (2 * n - 1) ^ d) :
    1 ≤ (2 * n - 1) ^ d ∧ 0 ≤ r / (2 * n - 1) ^ d ∧ r / (2 * n - 1) ^ d < 12 ∧ ∃ t y, impl_choices.f n p = some t ∧ r / (2 * n - 1) ^ d < (t.length : Int) ∧ rd t (r / (2 * n - 1) ^ d) = y ∧ nth p 0 (2 * n.toNat) (r / (2 * n - 1) ^ d).toNat = some y ∧ (y.natAbs : Int) ≤ n ∧ y ≠ 0 := by
  have hB := pow_one_le (2 * n - 1) (by omega) d
  obtain ⟨q0, q1⟩ := ub_div r (lets n i) _ h0 hB hlt
  rw [lets_p n out i p ha] at q1
  refine ⟨hB, q0, ?_, pick_y n h1 h6 p hp _ q0 q1⟩
  split at q1 <;> omega
theorem un_spec (n : Int) (h1 : 1 ≤ n) (h6 : n ≤ 6) (L : Nat) (hL : L ≤ 64) (d : Nat) : ∀ (k i : Nat) (r p : Int) (out : List Int), i + d = L → out.length = i → ahead out i p → (p.natAbs : Int) ≤ n → 0 ≤ r → r ≤ 1000000000000 → (0 < d → r < lets n i * (2 * n - 1) ^ (d - 1)) → 40 * d + 200 < k →
    ∃ u, un n d r p out = some u ∧ u.length = L ∧ spec_WordAt.l1 k n r (L : Int) out (i : Int) = some (u, true) := by
  induction d with
  | zero =>
    intro k i r p out hi ho _ _ _ _ _ hk
    obtain ⟨k, rfl⟩ : ∃ m, k = m + 1 := ⟨k - 1, by omega⟩
    refine ⟨out, rfl, by omega, ?_⟩
    rw [spec_WordAt.l1, if_neg (by omega)]
  | succ d ih =>
    intro k i r p out hi ho ha hp h0 hr hb hk
    obtain ⟨k, rfl⟩ : ∃ m, k = m + 1 := ⟨k - 1, by omega⟩
    have hlt := hb (by omega)
    rw [Nat.add_sub_cancel] at hlt
    obtain ⟨hB, q0, _, t, y, _, _, _, hn, hy, hy0⟩ := one_round n h1 h6 d i r p out ha hp h0 hlt
    have hb2 := emod_le r _ h0 hB
    have hnx := nexts n r h0 d i hB
    obtain ⟨m0, _⟩ := ub_mod r _ hB
    have hbe := l7Behind_f n h1 h6 d k (by omega) (by omega)
    rw [spec_WordAt.l1, if_pos (by omega), wr_len L i d hi hL, hbe, Option.bind_some]
    obtain ⟨B, hBd⟩ : ∃ B, B = (2 * n - 1) ^ d := ⟨_, rfl⟩
    rw [← hBd] at hlt hB q0 hn hb2 hnx m0 ⊢
    obtain ⟨k', hk', h'⟩ := step_l2 n h1 h6 L i hL out ho p (by omega) (by
      rcases ha with h | ⟨a, _, c⟩
      · exact .inl h
      · exact .inr ⟨a, c⟩) (by omega) B hB (2 * n.toNat) k 0 r y (by omega) (by omega) h0 hr hn
    obtain ⟨u, hu, hul, hs⟩ := ih k' (i + 1) (r % B) y (out ++ [y]) (by omega) (by simp; omega) (ahead_next out i ho y hy0) hy m0 (by omega) hnx (by omega)
    refine ⟨u, ?_, hul, h'.trans hs⟩
    rw [un, ← hBd, hn]; exact hu
theorem dcap (r B : Int) (h0 : 0 ≤ r) (hr : r ≤ 1000000000000) (hB : 1 ≤ B) : cap B ≠ 0 ∧ Int.tdiv r (cap B) = r / B ∧ Int.tmod r (cap B) = r % B := by
  unfold cap
  split
  · exact ⟨by omega, Int.tdiv_eq_ediv_of_nonneg h0, Int.tmod_eq_emod_of_nonneg h0⟩
  · rename_i h
    refine ⟨by omega, ?_, ?_⟩
    · rw [Int.tdiv_eq_ediv_of_nonneg h0, Int.ediv_eq_zero_of_lt h0 (by omega), Int.ediv_eq_zero_of_lt h0 (by omega)]
    · rw [Int.tmod_eq_emod_of_nonneg h0, Int.emod_eq_of_lt h0 (by omega), Int.emod_eq_of_lt h0 (by omega)]
theorem wq12 (q : Int) (q0 : 0 ≤ q) (hq : q < 12) : wrap64 q = q := by unfold wrap64; omega
theorem lt_len (i d L : Nat) (hi : i + (d + 1) = L) : (i : Int) < (L : Int) := by omega
theorem len_ok (out : List Int) (i d L : Nat) (ho : out.length = i) (hi : i + (d + 1) = L) (hL : L ≤ 64) : out.length < 17592186044416 := by omega
theorem impl_round (n : Int) (L : Nat) (k i : Nat) (r p B q : Int) (out t : List Int) (h1 : 1 ≤ n) (h6 : n ≤ 6) (d : Nat) (hi : i + (d + 1) = L) (hL : L ≤ 64) (ho : out.length = i) (hk : 100 < k) (hBd : B = (2 * n - 1) ^ d) (ht : impl_choices.f n p = some t) (c0 : cap B ≠ 0) (c1 : Int.tdiv r (cap B) = q) (q0 : 0 ≤ q) (hq : q < 12) (htl : q < (t.length : Int)) :
    impl_wordAtN.l1 (k + 1) n r (L : Int) out p (L : Int) (i : Int) = impl_wordAtN.l1 k n (Int.tmod r (cap B)) (L : Int) (out ++ [rd t q]) (rd t q) (L : Int) ((i + 1 : Nat) : Int) := by
  have ew : wrap64 q = q := wq12 q q0 hq
  have e0 : (i : Int) < (L : Int) := lt_len i d L hi
  have el : out.length < 17592186044416 := len_ok out i d L ho hi hL
  have hd : d < 1000 ∧ d < k ∧ i < 9223372036854775807 := by clear c1 c0 hBd; omega
  have ei : wrap64 ((i : Int) + 1) = ((i + 1 : Nat) : Int) := w64 i hd.2.2
  have ht2 := tails_f n h1 h6 d k hd.1 hd.2.1
  rw [← hBd] at ht2
  rw [impl_wordAtN.l1, if_pos e0, wr_len L i d hi hL, ht2, Option.bind_some, ht, Option.bind_some, if_neg c0, c1, ew, if_pos q0, if_pos htl, if_pos el, ei]
theorem un_impl (n : Int) (h1 : 1 ≤ n) (h6 : n ≤ 6) (L : Nat) (hL : L ≤ 64) (d : Nat) : ∀ (k i : Nat) (r p : Int) (out : List Int), i + d = L → out.length = i → ahead out i p → (p.natAbs : Int) ≤ n → 0 ≤ r → r ≤ 1000000000000 → (0 < d → r < lets n i * (2 * n - 1) ^ (d - 1)) → 2 * d + 200 < k →
    ∀ u, un n d r p out = some u → impl_wordAtN.l1 k n r (L : Int) out p (L : Int) (i : Int) = some (u, true) := by
  induction d with
  | zero =>
    intro k i r p out hi ho _ _ _ _ _ hk u hu
    obtain ⟨k, rfl⟩ : ∃ m, k = m + 1 := ⟨k - 1, by omega⟩
    rw [impl_wordAtN.l1, if_neg (by omega)]
    rw [un] at hu
    rw [Option.some.inj hu]
  | succ d ih =>
    intro k i r p out hi ho ha hp h0 hr hb hk u hu
    obtain ⟨k, rfl⟩ : ∃ m, k = m + 1 := ⟨k - 1, by omega⟩
    have hlt := hb (by omega)
    rw [Nat.add_sub_cancel] at hlt
    obtain ⟨hB, q0, q12, t, y, ht, htl, hrd, hn, hy, hy0⟩ := one_round n h1 h6 d i r p out ha hp h0 hlt
    have hb2 := emod_le r _ h0 hB
    have hnx := nexts n r h0 d i hB
    obtain ⟨m0, _⟩ := ub_mod r _ hB
    rw [un, hn, Option.bind_some] at hu
    obtain ⟨B, hBd⟩ : ∃ B, B = (2 * n - 1) ^ d := ⟨_, rfl⟩
    rw [← hBd] at hlt hB q0 q12 htl hrd hn hb2 hnx m0 hu
    obtain ⟨c0, c1, c2⟩ := dcap r B h0 hr hB
    rw [impl_round n L k i r p B (r / B) out t h1 h6 d hi hL ho (by omega) hBd ht c0 c1 q0 q12 htl, c2, hrd]
    exact ih k (i + 1) (r % B) y (out ++ [y]) (by omega) (by simp; omega) (ahead_next out i ho y hy0) hy m0 (by omega) hnx (by omega) u hu
theorem l0_end (n : Int) (h1 : 1 ≤ n) (h6 : n ≤ 6) (k j i : Nat) (r : Int) (hi : i ≤ 64) (hk : 400 < k + 70) (hj : 3000 < j) (h0 : 0 ≤ r) (hr : r ≤ 1000000000000) (hc : r < cap (cnt n i)) :
    ∃ u, u.length ≤ 64 ∧ impl_wordAtN.l1 k n r (i : Int) [] 0 (i : Int) 0 = some (u, true) ∧ spec_WordAt.l1 j n r (i : Int) [] 0 = some (u, true) := by
  have hcc : r < cnt n i := by unfold cap at hc; split at hc <;> omega
  have hb : 0 < i → r < lets n 0 * (2 * n - 1) ^ (i - 1) := by
    intro hi0
    obtain ⟨i, rfl⟩ : ∃ m, i = m + 1 := ⟨i - 1, by omega⟩
    exact hcc
  obtain ⟨u, hu, hul, hs⟩ := un_spec n h1 h6 i hi i j 0 r 0 [] (by omega) rfl (.inl ⟨rfl, rfl⟩) (by simp; omega) h0 hr hb (by omega)
  exact ⟨u, by omega, un_impl n h1 h6 i hi i k 0 r 0 [] (by omega) rfl (.inl ⟨rfl, rfl⟩) (by simp; omega) h0 hr hb (by omega) u hu, hs⟩
theorem sp_l0 (n r m : Int) (i k : Nat) : spec_WordAt.l0 (k + 1) n r (i : Int) m = spec_WordAt.j2 k n r (i : Int) m (decide (m ≥ 0 ∧ r ≥ m)) := by
  rw [spec_WordAt.l0]
  by_cases h : m ≥ 0
  · rw [if_pos h]
    by_cases h2 : r ≥ m
    · rw [decide_eq_true h2, decide_eq_true ⟨h, h2⟩]
    · rw [decide_eq_false h2, decide_eq_false (fun h3 => h2 h3.2)]
  · rw [if_neg h, decide_eq_false (fun h3 => h h3.1)]
theorem dB_cap (x r : Int) (hx : 1 ≤ x) (hr : r ≤ 1000000000000) : (dB x ≥ 0 ∧ r ≥ dB x) ↔ r ≥ cap x := by
  unfold dB cap; split <;> omega
theorem l0_both (n : Int) (h1 : 1 ≤ n) (h6 : n ≤ 6) (d : Nat) : ∀ (k j i : Nat) (r : Int), i + d = 64 → d + 335 < k → 2 * d + 3010 < j → 0 ≤ r → r ≤ 1000000000000 →
    ∃ u b, u.length ≤ 64 ∧ impl_wordAtN.l0 k n r (i : Int) = some (u, b) ∧ spec_WordAt.l0 j n r (i : Int) (dB (cnt n i)) = some (u, b) := by
  induction d with
  | zero =>
    intro k j i r hi hk hj h0 hr
    obtain ⟨k, rfl⟩ : ∃ m, k = m + 2 := ⟨k - 2, by omega⟩
    obtain ⟨j, rfl⟩ : ∃ m, j = m + 2 := ⟨j - 2, by omega⟩
    have hcn := cnt_pos n h1 i
    have hcr := countReduced_f n h1 h6 i (k + 1) (by omega) (by omega)
    have hi2 : (i : Int) ≤ 64 := by omega
    have ei : wrap64 ((i : Int) + 1) = ((i + 1 : Nat) : Int) := w64 i (by omega)
    rw [impl_wordAtN.l0, if_pos hi2, hcr, Option.bind_some, sp_l0]
    by_cases hc : r ≥ cap (cnt n i)
    · have hn : ¬ ((i + 1 : Nat) : Int) ≤ 64 := by omega
      have hn2 : ((i + 1 : Nat) : Int) > 64 := by omega
      refine ⟨[], false, by simp, ?_, ?_⟩
      · rw [if_pos hc, ei, impl_wordAtN.l0, if_neg hn]
      · rw [decide_eq_true ((dB_cap _ r hcn hr).2 hc), spec_WordAt.j2, if_pos rfl, ei, if_pos hn2]
    · obtain ⟨u, hu, h2, h3⟩ := l0_end n h1 h6 (k + 1) j i r (by omega) (by omega) (by omega) h0 hr (by omega)
      refine ⟨u, true, hu, ?_, ?_⟩
      · rw [if_neg hc]; exact h2
      · rw [decide_eq_false (fun h => hc ((dB_cap _ r hcn hr).1 h)), spec_WordAt.j2, if_neg Bool.false_ne_true]; exact h3
  | succ d ih =>
    intro k j i r hi hk hj h0 hr
    obtain ⟨k, rfl⟩ : ∃ m, k = m + 2 := ⟨k - 2, by omega⟩
    obtain ⟨j, rfl⟩ : ∃ m, j = m + 2 := ⟨j - 2, by omega⟩
    have hcn := cnt_pos n h1 i
    have hcr := countReduced_f n h1 h6 i (k + 1) (by omega) (by omega)
    have hlr := l7Reduced_f n h1 h6 (i + 1) j (by omega) (by omega)
    have hi2 : (i : Int) ≤ 64 := by omega
    have ei : wrap64 ((i : Int) + 1) = ((i + 1 : Nat) : Int) := w64 i (by omega)
    rw [impl_wordAtN.l0, if_pos hi2, hcr, Option.bind_some, sp_l0]
    by_cases hc : r ≥ cap (cnt n i)
    · have hn2 : ¬ ((i + 1 : Nat) : Int) > 64 := by omega
      have hcap : cap (cnt n i) = cnt n i ∧ dB (cnt n i) = cnt n i := by unfold cap dB; unfold cap at hc; split at hc <;> rename_i h9 <;> first | (rw [if_pos h9, if_pos h9]; exact ⟨rfl, rfl⟩) | omega
      rw [hcap.1] at hc ⊢
      have ew : wrap64 (r - cnt n i) = r - cnt n i := wsub r _ hr hcn (by omega)
      obtain ⟨u, b, hu, h2, h3⟩ := ih (k + 1) j (i + 1) (r - cnt n i) (by omega) (by omega) (by omega) (by omega) (by omega)
      refine ⟨u, b, hu, ?_, ?_⟩
      · rw [if_pos hc, ei, ew]; exact h2
      · rw [hcap.2, decide_eq_true ⟨by omega, hc⟩, spec_WordAt.j2, if_pos rfl, ei, if_neg hn2, hlr, Option.bind_some, ew]; exact h3
    · obtain ⟨u, hu, h2, h3⟩ := l0_end n h1 h6 (k + 1) j i r (by omega) (by omega) (by omega) h0 hr (by omega)
      refine ⟨u, true, hu, ?_, ?_⟩
      · rw [if_neg hc]; exact h2
      · rw [decide_eq_false (fun h => hc ((dB_cap _ r hcn hr).1 h)), spec_WordAt.j2, if_neg Bool.false_ne_true]; exact h3
end Go.Proofs.Ytnpgegfffklcpaa.PFnExactWordAt
namespace Go.Proofs.Ytnpgegfffklcpaa.Pure
open Go.RowKit Go.Proofs.Ytnpgegfffklcpaa.PFnExactWordAt Go.Proofs.YtnpgegfffklcpaaW.PrintWords Go.Proofs.YtnpgegfffklcpaaW.PrintLast
set_option linter.unusedVariables false
set_option linter.unusedSimpArgs false
theorem nail_is (a0 : Int) : KW.impl_isNail.f a0 = some (decide (1 ≤ a0 ∧ a0 ≤ 6)) ∧ spec_l7Nails.f a0 = some (decide (1 ≤ a0 ∧ a0 ≤ 6)) := by
  unfold KW.impl_isNail.f spec_l7Nails.f spec_l1In.f
  by_cases h : a0 ≥ 1
  · rw [if_pos h]
    by_cases h2 : a0 ≤ 6
    · rw [decide_eq_true h2, decide_eq_true ⟨h, h2⟩]; exact ⟨rfl, rfl⟩
    · rw [decide_eq_false h2, decide_eq_false (fun h3 => h2 h3.2)]; exact ⟨rfl, rfl⟩
  · rw [if_neg h, decide_eq_false (fun h3 => h h3.1)]; exact ⟨rfl, rfl⟩
theorem both (a0 a1 : Int) : ∃ u b, u.length ≤ 64 ∧ impl_WordAt.f a0 a1 = some (u, b) ∧ spec_WordAt.f 5000 a0 a1 = some (u, b) := by
  have hN : ∀ k, spec_WordAt.j0 (k + 1) a0 a1 true = some ([], false) := fun k => by rw [spec_WordAt.j0, if_pos rfl]
  have hb := nail_is a0
  unfold impl_WordAt.f KW.impl_WordAt.f spec_WordAt.f
  by_cases hn : 1 ≤ a0 ∧ a0 ≤ 6
  · rw [decide_eq_true hn] at hb
    rw [hb.1, hb.2, Option.bind_some, Option.bind_some, if_pos rfl, if_pos rfl]
    unfold spec_l1In.f
    by_cases h1 : a1 < 0
    · have h2 : ¬ a1 ≥ 0 := by omega
      rw [if_pos h1, if_neg h2, Option.bind_some]
      exact ⟨[], false, by simp, rfl, hN _⟩
    · have h2 : a1 ≥ 0 := by omega
      rw [if_neg h1, if_pos h2, Option.bind_some]
      by_cases h3 : a1 > 1000000000000
      · have h4 : ¬ a1 ≤ 1000000000000 := by omega
        rw [if_pos h3, decide_eq_false h4]
        exact ⟨[], false, by simp, rfl, hN _⟩
      · have h4 : a1 ≤ 1000000000000 := by omega
        rw [if_neg h3, decide_eq_true h4]
        obtain ⟨u, b, hu, h5, h6⟩ := l0_both a0 hn.1 hn.2 64 400 4999 0 a1 (by omega) (by omega) (by omega) h2 h4
        refine ⟨u, b, hu, h5, ?_⟩
        have e := l7Reduced_f a0 hn.1 hn.2 0 4999 (by omega) (by omega)
        rw [Bool.not_true, spec_WordAt.j0, if_neg Bool.false_ne_true]
        exact bindS e h6
  · rw [decide_eq_false hn] at hb
    rw [hb.1, hb.2, Option.bind_some, Option.bind_some, if_neg Bool.false_ne_true, if_neg Bool.false_ne_true]
    exact ⟨[], false, by simp, rfl, hN _⟩
/-- The program's WordAt and the reference's agree at all arguments. -/
theorem FnExactWordAt : laws_FnExactWordAt.Pure := by
  intro a0 a1 _ _
  obtain ⟨u, b, hu, hi, hs⟩ := both a0 a1
  refine ⟨5000, ?_⟩
  have he := fun k (hk : 64 < k) => eqIntS_f u k (by omega) (by omega)
  have hm := fun k (hk : 64 < k) => markIntS_f u 1 k (by omega) (by omega) (by omega) (by omega)
  have hh := fun k (hk : 64 < k) => heldIntS_f 1 u.length k (by omega) (by omega) (by omega) (by omega)
  have h0 : ¬ (1 + (u.length : Int) < 0) := by omega
  unfold laws_FnExactWordAt.f
  refine bindS hs ?_
  refine bindS hi ?_
  refine bindS (he _ (by omega)) ?_
  dsimp only
  rw [if_pos rfl, bne_self_eq_false, laws_FnExactWordAt.j0, if_neg Bool.false_ne_true]
  refine bindS (hm _ (by omega)) ?_
  refine bindS (hh _ (by omega)) ?_
  dsimp only
  rw [if_neg h0, if_pos rfl]
  refine bindS hi ?_
  refine bindS (he _ (by omega)) ?_
  dsimp only
  rw [if_pos rfl, bne_self_eq_false, laws_FnExactWordAt.j1, if_neg Bool.false_ne_true]
  refine bindS (hh _ (by omega)) ?_
  rw [if_neg h0, if_pos rfl]
end Go.Proofs.Ytnpgegfffklcpaa.Pure
