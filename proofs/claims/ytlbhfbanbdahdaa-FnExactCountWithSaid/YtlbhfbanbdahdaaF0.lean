/- Tables of sets, what is least in them, and that the reference's edges and the program's least sets are those. Conditions stand in each theorem. -/
import Derived.Test.YtlbhfbanbdahdaaQA
namespace Go.Proofs.Ytlbhfbanbdahdaa.Q
open Go.RowKit Go.Proofs.YtlbhfbanbdahdaaW.PrintWords Go.Proofs.YtlbhfbanbdahdaaW.PrintLast Go.Proofs.YtlbhfbanbdahdaaW.PrintMore Go.Proofs.YtlbhfbanbdahdaaM
set_option linter.unusedVariables false
set_option linter.unusedSimpArgs false

/-! numbers below 64 -/
theorem w64 (i : Nat) (h : i < 9223372036854775807) : wrap64 ((i : Int) + 1) = ((i + 1 : Nat) : Int) := by
  unfold wrap64; omega
theorem rd_nat (l : List Int) (i : Nat) (h : i < l.length) : rd l (i : Int) = l[i] := by
  simp [rd, h]
theorem rdOf_nat {α : Type} (d : α) (l : List α) (i : Nat) (h : i < l.length) : rdOf d l (i : Int) = l[i] := by
  simp [rdOf, h]

/-- part: a is a part of b -/
def pt (a b : Int) : Bool := Go.bits .and .i64 a b == a
def inS (a : Int) : Bool := decide (0 ≤ a) && decide (a < 64)
theorem inS_iff (a : Int) : inS a = true ↔ 0 ≤ a ∧ a < 64 := by simp [inS]
theorem fin64 {P : Int → Prop} (h : ∀ i : Fin 64, P ((i.val : Nat) : Int)) (x : Int) (h0 : 0 ≤ x) (h1 : x < 64) : P x := by
  have := h ⟨x.toNat, by omega⟩
  simpa [Int.toNat_of_nonneg h0] using this
theorem and_nat : ∀ i : Fin 64, ∀ j : Fin 64, Go.bits .and .i64 ((i.val : Nat) : Int) ((j.val : Nat) : Int) = ((i.val &&& j.val : Nat) : Int) := by
  decide +kernel
theorem pt_nat (i j : Nat) (hi : i < 64) (hj : j < 64) : pt (i : Int) (j : Int) = (i &&& j == i) := by
  have := and_nat ⟨i, hi⟩ ⟨j, hj⟩
  simp only at this
  rw [pt, this]
  by_cases h : i &&& j = i
  · simp [h]
  · have h2 : ((i &&& j : Nat) : Int) ≠ (i : Int) := fun e => h (Int.ofNat.inj e)
    rw [beq_eq_false_iff_ne.mpr h2, beq_eq_false_iff_ne.mpr h]
theorem pt_trans (a b c : Int) (ha : inS a) (hb : inS b) (hc : inS c) (h1 : pt a b) (h2 : pt b c) : pt a c := by
  rw [inS_iff] at ha hb hc
  obtain ⟨a, rfl⟩ := Int.eq_ofNat_of_zero_le ha.1
  obtain ⟨b, rfl⟩ := Int.eq_ofNat_of_zero_le hb.1
  obtain ⟨c, rfl⟩ := Int.eq_ofNat_of_zero_le hc.1
  rw [pt_nat _ _ (by omega) (by omega)] at *
  simp only [beq_iff_eq] at *
  rw [← h1, Nat.and_assoc, h2]
theorem pt_le (a b : Int) (ha : inS a) (hb : inS b) (h1 : pt a b) : a ≤ b := by
  rw [inS_iff] at ha hb
  obtain ⟨a, rfl⟩ := Int.eq_ofNat_of_zero_le ha.1
  obtain ⟨b, rfl⟩ := Int.eq_ofNat_of_zero_le hb.1
  rw [pt_nat _ _ (by omega) (by omega)] at *
  simp only [beq_iff_eq] at *
  have : a &&& b ≤ b := Nat.and_le_right
  omega

/-! tables -/
def tb (p : Int → Bool) : List Bool := (List.range 64).map fun i => p ((i : Nat) : Int)
theorem tb_len (p) : (tb p).length = 64 := by simp [tb]
theorem tb_rd (p : Int → Bool) (x : Int) (h0 : 0 ≤ x) (h1 : x < 64) : rdOf false (tb p) x = p x := by
  obtain ⟨i, rfl⟩ := Int.eq_ofNat_of_zero_le h0
  rw [rdOf_nat _ _ i (by rw [tb_len]; omega)]
  simp [tb]
theorem tb_congr {p q : Int → Bool} (h : ∀ x, 0 ≤ x → x < 64 → p x = q x) : tb p = tb q := by
  apply List.map_congr_left
  intro i hi
  have := List.mem_range.mp hi
  exact h _ (by omega) (by omega)
/-- going up -/
def up (p : Int → Bool) : Prop := ∀ y x, inS y → inS x → pt y x → p y → p x

/-- what is least, and what has none below it by one nail -/
def leastB (p : Int → Bool) (x : Int) : Bool := p x && (List.range x.toNat).all fun y => !(pt ((y : Nat) : Int) x && p ((y : Nat) : Int))
def nx (x : Int) (n : Nat) : Int := Go.bits .xor .i64 x (shl .i64 1 (n : Int))
def edgeB (p : Int → Bool) (x : Int) : Bool := (List.range 6).all (fun n => !(p (nx x n) && decide (nx x n < x))) && p x
def leasts (p : Int → Bool) : List Int := ((List.range 64).map fun i => ((i : Nat) : Int)).filter (leastB p)

theorem nx_in : ∀ i : Fin 64, ∀ n : Fin 6, inS (nx ((i.val : Nat) : Int) n.val) = true := by decide +kernel
theorem nx_pt : ∀ i : Fin 64, ∀ n : Fin 6, nx ((i.val : Nat) : Int) n.val < ((i.val : Nat) : Int) → pt (nx ((i.val : Nat) : Int) n.val) ((i.val : Nat) : Int) = true := by decide +kernel
theorem nx_mid : ∀ i : Fin 64, ∀ j : Fin 64, j.val < i.val → pt ((j.val : Nat) : Int) ((i.val : Nat) : Int) = true → ∃ n : Fin 6, nx ((i.val : Nat) : Int) n.val < ((i.val : Nat) : Int) ∧ pt ((j.val : Nat) : Int) (nx ((i.val : Nat) : Int) n.val) = true := by decide +kernel

theorem edge_least (p : Int → Bool) (hu : up p) (i : Fin 64) : edgeB p ((i.val : Nat) : Int) = leastB p ((i.val : Nat) : Int) := by
  rw [Bool.eq_iff_iff]
  have hx : inS ((i.val : Nat) : Int) = true := (inS_iff _).mpr ⟨by omega, by omega⟩
  simp only [edgeB, leastB, Bool.and_eq_true, List.all_eq_true, List.mem_range, Bool.not_eq_true', Bool.and_eq_false_iff, decide_eq_false_iff_not, Int.toNat_natCast]
  constructor
  · rintro ⟨h, hp⟩
    refine ⟨hp, fun y hy => ?_⟩
    by_cases hq : pt ((y : Nat) : Int) ((i.val : Nat) : Int) = true
    · right
      obtain ⟨n, h1, h2⟩ := nx_mid i ⟨y, by omega⟩ hy hq
      cases hpy : p ((y : Nat) : Int) with
      | false => rfl
      | true =>
        exfalso
        have := hu _ _ ((inS_iff _).mpr ⟨by omega, by omega⟩) (nx_in i n) h2 hpy
        rcases h n.val n.isLt with h3 | h3
        · rw [this] at h3; cases h3
        · exact h3 h1
    · left; simpa using hq
  · rintro ⟨hp, h⟩
    refine ⟨fun n hn => ?_, hp⟩
    by_cases hq : nx ((i.val : Nat) : Int) n < ((i.val : Nat) : Int)
    · left
      have h1 := nx_pt i ⟨n, hn⟩ hq
      have h2 := (inS_iff _).mp (nx_in i ⟨n, hn⟩)
      simp only at h1 h2
      obtain ⟨y, hy⟩ := Int.eq_ofNat_of_zero_le h2.1
      rw [hy] at h1 hq ⊢
      rcases h y (by omega) with h3 | h3
      · rw [h1] at h3; cases h3
      · exact h3
    · right; exact hq

/-- one more is set -/
theorem set_range (p : Int → Bool) (m : List Bool) (i : Nat) (hm : m.length = 64) (hi : i < 64) (h : m.take i = (List.range i).map fun j => p ((j : Nat) : Int)) :
    (m.set i (p (i : Int))).take (i + 1) = (List.range (i + 1)).map fun j => p ((j : Nat) : Int) := by
  rw [List.take_add_one, List.range_succ, List.map_append, ← h, List.take_set_of_le (by omega)]
  simp [hm, hi]
/-- edges -/
theorem l3Edge_l0 (p : Int → Bool) (x : Fin 64) : ∀ (n k i : Nat), i + n = 6 → n < k → spec_l3Edge.l0 k ((x.val : Nat) : Int) true (i : Int) (tb p) = some (((List.range' i n).all fun j => !(p (nx ((x.val : Nat) : Int) j) && decide (nx ((x.val : Nat) : Int) j < ((x.val : Nat) : Int)))) && p ((x.val : Nat) : Int))
  | 0, k + 1, i, hi, _ => by
    have hi : i = 6 := by omega
    rw [spec_l3Edge.l0, if_neg (by omega), if_pos (by omega), if_pos (by omega), tb_rd _ _ (by omega) (by omega)]
    simp
  | n + 1, k + 1, i, hi, hk => by
    have hn := (inS_iff _).mp (nx_in x ⟨i, by omega⟩)
    have e : Go.bits .xor .i64 ((x.val : Nat) : Int) (shl .i64 1 ((i : Nat) : Int)) = nx ((x.val : Nat) : Int) i := rfl
    simp only at hn
    rw [spec_l3Edge.l0, e, if_pos (by omega), if_pos (by omega), if_pos hn.1, if_pos hn.2, tb_rd _ _ hn.1 hn.2, w64 _ (by omega), l3Edge_l0 p x n k (i + 1) (by omega) (by omega), List.range'_succ]
    simp only [List.all_cons]
    cases p (nx ((x.val : Nat) : Int) i) <;> by_cases h : nx ((x.val : Nat) : Int) i < ((x.val : Nat) : Int) <;> simp [h]
theorem l3Edge_f (p : Int → Bool) (x : Fin 64) (k : Nat) (hk : 6 < k) : spec_l3Edge.f k (tb p) ((x.val : Nat) : Int) true = some (edgeB p ((x.val : Nat) : Int)) := by
  have h : spec_l3Edge.f k (tb p) ((x.val : Nat) : Int) true = _ := l3Edge_l0 p x 6 k 0 (by omega) hk
  rw [h, edgeB, List.range_eq_range']

def upto (q : Int → Bool) (i : Nat) : List Int := ((List.range i).map fun j => ((j : Nat) : Int)).filter q
theorem upto_succ (q : Int → Bool) (i : Nat) : upto q (i + 1) = if q (i : Int) then upto q i ++ [(i : Int)] else upto q i := by
  simp only [upto, List.range_succ, List.map_append, List.filter_append, List.map_cons, List.map_nil]
  by_cases h : q (i : Int) = true
  · simp [h]
  · simp [h]
theorem upto_len (q : Int → Bool) (i : Nat) : (upto q i).length ≤ i := by
  refine Nat.le_trans (List.length_filter_le _ _) (by simp)
theorem l3Edges_l0 (p : Int → Bool) : ∀ (n k i : Nat), i + n = 64 → n + 7 < k → spec_l3Edges.l0 k true (i : Int) (upto (edgeB p) i) (tb p) = some (upto (edgeB p) 64)
  | 0, k + 1, i, hi, _ => by
    have hi : i = 64 := by omega
    simp [spec_l3Edges.l0, hi]
  | n + 1, k + 1, i, hi, hk => by
    have hl := upto_len (edgeB p) i
    have e := l3Edge_f p ⟨i, by omega⟩ k (by omega)
    simp only at e
    have ih := l3Edges_l0 p n k (i + 1) (by omega) (by omega)
    rw [upto_succ] at ih
    rw [spec_l3Edges.l0, if_pos (by omega), e, Option.bind_some, w64 _ (by omega)]
    cases hq : edgeB p (i : Int) with
    | true => rw [hq] at ih; simp only [if_true] at ih ⊢; rw [if_pos (by omega)]; exact ih
    | false => rw [hq] at ih; simpa using ih
theorem l5Made_f (p : Int → Bool) (k : Nat) (hk : 71 < k) : spec_l5Made.f k (tb p) = some (upto (edgeB p) 64) := by
  have : spec_l3Edges.f k (tb p) true = _ := l3Edges_l0 p 64 k 0 (by omega) (by omega)
  rw [spec_l5Made.f, this]; rfl

/-- least ones -/
theorem leastOf_l1 (p : Int → Bool) (x : Nat) (hx : x < 64) (m2 : List Int) (hm : m2.length < 65) : ∀ (n k i : Nat) (b : Bool), i + n = x → n < k →
    impl_leastOf.l1 k (x : Int) b (tb p) (x : Int) (x : Int) (i : Int) m2 (tb p) = 
      if (b && (List.range' i n).all fun y => !(pt ((y : Nat) : Int) (x : Int) && p ((y : Nat) : Int))) then impl_leastOf.l0 (k - n - 1) (tb p) ((x + 1 : Nat) : Int) (m2 ++ [(x : Int)]) (tb p) else impl_leastOf.l0 (k - n - 1) (tb p) ((x + 1 : Nat) : Int) m2 (tb p)
  | 0, k + 1, i, b, hi, _ => by
    have hi : i = x := by omega
    rw [impl_leastOf.l1, if_neg (by omega), w64 _ (by omega)]
    cases b <;> simp <;> intro h <;> omega
  | n + 1, k + 1, i, b, hi, hk => by
    have ek : k + 1 - (n + 1) - 1 = k - n - 1 := by omega
    rw [impl_leastOf.l1, if_pos (by omega), w64 _ (by omega), List.range'_succ, ek]
    cases b with
    | false =>
      rw [if_neg (by simp), leastOf_l1 p x hx m2 hm n k (i + 1) false (by omega) (by omega)]
      simp
    | true =>
      rw [if_pos rfl]
      by_cases hp : Go.bits .and .i64 (i : Int) (x : Int) = (i : Int)
      · have hp' : pt (i : Int) (x : Int) = true := by simp [pt, hp]
        rw [if_pos hp, if_pos (by omega), if_pos (by omega), tb_rd _ _ (by omega) (by omega), leastOf_l1 p x hx m2 hm n k (i + 1) _ (by omega) (by omega)]
        simp only [List.all_cons, hp', Bool.true_and]
      · have hp' : pt (i : Int) (x : Int) = false := by simp [pt, hp]
        rw [if_neg hp, leastOf_l1 p x hx m2 hm n k (i + 1) _ (by omega) (by omega)]
        simp only [List.all_cons, hp', Bool.true_and, Bool.false_and, Bool.not_false]
theorem leastOf_l0 (p : Int → Bool) : ∀ (n k i : Nat), i + n = 64 → n * 70 + 70 < k → impl_leastOf.l0 k (tb p) (i : Int) (upto (leastB p) i) (tb p) = some (upto (leastB p) 64)
  | 0, k + 1, i, hi, _ => by
    have hi : i = 64 := by omega
    simp [impl_leastOf.l0, hi]
  | n + 1, k + 1, i, hi, hk => by
    have hl := upto_len (leastB p) i
    have ih := leastOf_l0 p n (k - i - 1) (i + 1) (by omega) (by omega)
    rw [impl_leastOf.l0, if_pos (by omega), if_pos (by omega), tb_rd _ _ (by omega) (by omega)]
    have e := leastOf_l1 p i (by omega) (upto (leastB p) i) (by omega) i k 0 (p (i : Int)) (by omega) (by omega)
    have e' : impl_leastOf.l1 k (i : Int) (p (i : Int)) (tb p) (i : Int) (i : Int) 0 (upto (leastB p) i) (tb p) = _ := e
    rw [e']
    have hq : (p (i : Int) && (List.range' 0 i).all fun y => !(pt ((y : Nat) : Int) (i : Int) && p ((y : Nat) : Int))) = leastB p (i : Int) := by
      simp [leastB, List.range_eq_range']
    rw [hq]
    rw [upto_succ] at ih
    cases h : leastB p (i : Int) <;> rw [h] at ih <;> simpa using ih
theorem leastOf_f (p : Int → Bool) (k : Nat) (hk : 4600 < k) : impl_leastOf.f k (tb p) = some (upto (leastB p) 64) :=
  leastOf_l0 p 64 k 0 (by omega) (by omega)
theorem made_eq (p : Int → Bool) (hu : up p) : upto (edgeB p) 64 = upto (leastB p) 64 := by
  unfold upto
  apply List.filter_congr
  intro x hx
  simp only [List.mem_map, List.mem_range] at hx
  obtain ⟨i, hi, rfl⟩ := hx
  exact edge_least p hu ⟨i, hi⟩
end Go.Proofs.Ytlbhfbanbdahdaa.Q
