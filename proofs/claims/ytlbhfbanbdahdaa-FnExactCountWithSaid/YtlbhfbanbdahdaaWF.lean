/- The words of a length, and what they fall for, as program and reference list them. Conditions stand in each theorem. -/
import Derived.Test.YtlbhfbanbdahdaaWD
import Derived.Test.YtlbhfbanbdahdaaV0
import Derived.Test.YtlbhfbanbdahdaaWO
import Derived.Test.YtlbhfbanbdahdaaQD
import Derived.Test.YtlbhfbanbdahdaaKB2
import Derived.Test.YtlbhfbanbdahdaaKA1
namespace Go.Proofs.Ytlbhfbanbdahdaa.Q
open Go.RowKit Go.Proofs.YtlbhfbanbdahdaaW.PrintWords Go.Proofs.YtlbhfbanbdahdaaW.PrintLast Go.Proofs.YtlbhfbanbdahdaaW.PrintMore Go.Proofs.YtlbhfbanbdahdaaM Go.Proofs.Ytlbhfbanbdahdaa.K
set_option linter.unusedVariables false
set_option linter.unusedSimpArgs false
/-- the letters, in order -/
def lt6 (c : Nat) : Int := [1, -1, 2, -2, 3, -3].getD c 0
def lts (n : Nat) : List Int := (List.range (2 * n)).map lt6
theorem lt6_ok : ∀ c, c < 6 → lt6 c ≠ 0 ∧ -3 ≤ lt6 c ∧ lt6 c ≤ 3 := by decide
theorem lts_mem {n : Nat} (hn : n ≤ 3) {x : Int} (h : x ∈ lts n) : x ≠ 0 ∧ -3 ≤ x ∧ x ≤ 3 := by
  simp only [lts, List.mem_map, List.mem_range] at h
  obtain ⟨c, hc, rfl⟩ := h
  exact lt6_ok c (by omega)
theorem lts_let {n : Nat} (hn : n ≤ 3) {x : Int} (h : x ∈ lts n) : letB x = true := by
  have := lts_mem hn h
  exact (letB_iff x).2 (by omega)
def lastL (w : List Int) : Int := w.getLastD 0
theorem lastL_snoc (w : List Int) (m : Int) : lastL (w ++ [m]) = m := by simp [lastL]
/-- the words with one letter more -/
def ext (n : Nat) (w : List Int) : List (List Int) := ((lts n).filter fun m => m != -(lastL w)).map fun m => w ++ [m]
def itW (n : Nat) : Nat → List (List Int) → List (List Int)
  | 0, xs => xs
  | d + 1, xs => itW n d (xs.flatMap (ext n))
theorem itW_append (n : Nat) : ∀ (d : Nat) (xs ys : List (List Int)), itW n d (xs ++ ys) = itW n d xs ++ itW n d ys
  | 0, _, _ => rfl
  | d + 1, xs, ys => by rw [itW, itW, itW, List.flatMap_append, itW_append n d]
theorem itW_nil (n : Nat) : ∀ (d : Nat), itW n d [] = []
  | 0 => rfl
  | d + 1 => by rw [itW, List.flatMap_nil, itW_nil n d]
/-- so long, of these letters -/
def Wd (n i : Nat) (w : List Int) : Prop := w.length = i ∧ ∀ x ∈ w, x ∈ lts n
theorem ext_ok {n i : Nat} {w : List Int} (h : Wd n i w) : ∀ v ∈ ext n w, Wd n (i + 1) v := by
  intro v hv
  simp only [ext, List.mem_map, List.mem_filter] at hv
  obtain ⟨m, ⟨hm, _⟩, rfl⟩ := hv
  refine ⟨by simp [h.1], fun x hx => ?_⟩
  rcases List.mem_append.1 hx with hx | hx
  · exact h.2 x hx
  · rw [List.mem_singleton.1 hx]; exact hm
theorem ext_len {n : Nat} (hn : n ≤ 3) (w : List Int) : (ext n w).length ≤ 6 := by
  unfold ext
  rw [List.length_map]
  refine Nat.le_trans (List.length_filter_le _ _) ?_
  simp [lts]; omega
theorem flat_len {n : Nat} (hn : n ≤ 3) : ∀ (xs : List (List Int)), (xs.flatMap (ext n)).length ≤ 6 * xs.length
  | [] => by simp
  | x :: t => by
    rw [List.flatMap_cons, List.length_append, List.length_cons]
    have := ext_len hn x
    have := flat_len hn t
    omega
theorem itW_len {n : Nat} (hn : n ≤ 3) : ∀ (d : Nat) (xs : List (List Int)), (itW n d xs).length ≤ 6 ^ d * xs.length
  | 0, xs => by simp [itW]
  | d + 1, xs => by
    rw [itW]
    refine Nat.le_trans (itW_len hn d _) ?_
    have h := flat_len hn xs
    calc 6 ^ d * (xs.flatMap (ext n)).length ≤ 6 ^ d * (6 * xs.length) := Nat.mul_le_mul_left _ h
      _ = 6 ^ (d + 1) * xs.length := by rw [Nat.pow_succ, Nat.mul_assoc]
theorem itW_ok {n : Nat} : ∀ (d i : Nat) (xs : List (List Int)), (∀ w ∈ xs, Wd n i w) → ∀ w ∈ itW n d xs, Wd n (i + d) w
  | 0, i, xs, h => h
  | d + 1, i, xs, h => by
    rw [itW, show i + (d + 1) = i + 1 + d by omega]
    refine itW_ok d (i + 1) _ fun v hv => ?_
    obtain ⟨w, hw, hv⟩ := List.mem_flatMap.1 hv
    exact ext_ok (h w hw) v hv
/-! the program's -/
theorem letters_up (n : Int) (r : List Int) (h : K.impl_letters.f 20 n = some r) : ∀ j, K.impl_letters.f (20 + j) n = some r
  | 0 => h
  | j + 1 => K.impl_letters.mono n (20 + j) r (letters_up n r h j)
theorem letters1 : K.impl_letters.f 20 1 = some (lts 1) := by kernel_rfl
theorem letters2 : K.impl_letters.f 20 2 = some (lts 2) := by kernel_rfl
theorem letters3 : K.impl_letters.f 20 3 = some (lts 3) := by kernel_rfl
theorem letters_is (n : Nat) (h1 : 1 ≤ n) (h3 : n ≤ 3) (k : Nat) (hk : 20 ≤ k) : K.impl_letters.f k (n : Int) = some (lts n) := by
  obtain ⟨j, rfl⟩ := Nat.exists_eq_add_of_le hk
  match n, h1, h3 with
  | 1, _, _ => exact letters_up _ _ letters1 j
  | 2, _, _ => exact letters_up _ _ letters2 j
  | 3, _, _ => exact letters_up _ _ letters3 j
theorem choices_is (n : Nat) (h1 : 1 ≤ n) (h3 : n ≤ 3) (b : Int) (hb : -3 ≤ b ∧ b ≤ 3) (k : Nat) (hk : 20 ≤ k) : impl_choices.f k (n : Int) b = some ((lts n).filter fun m => m != -b) := by
  have e : wrap64 (-b) = -b := by unfold wrap64; omega
  rw [impl_choices.f, letters_is n h1 h3 k hk, Option.bind_some, slices_DeleteFunc_int_int.f, delF_filter _ (fun m => m == -b) (lts n) (fun x _ => by rw [impl_choices_1.f, e]), Option.bind_some]
  rfl
theorem addF_is (n L : Nat) (h1 : 1 ≤ n) (h3 : n ≤ 3) (hL : L < 100) (k : Nat) (hk : 20 ≤ k) : ∀ (d q : Nat) (l : List Int), l.length + d = L → d < q → (∀ x ∈ l, x ∈ lts n) → addF k (n : Int) (L : Int) q l (lastL l) = some (itW n d [l])
  | 0, q + 1, l, hl, _, _ => by rw [addF, if_pos (by omega)]; rfl
  | d + 1, q + 1, l, hl, hq, hx => by
    have hb : -3 ≤ lastL l ∧ lastL l ≤ 3 := by
      unfold lastL
      rcases List.eq_nil_or_concat l with rfl | ⟨t, m, rfl⟩
      · simp
      · have := lts_mem h3 (hx m (by simp))
        simp
        omega
    rw [addF, if_neg (by omega), if_pos (by omega), choices_is n h1 h3 _ hb k hk, Option.bind_some]
    have hcat : ∀ (cs : List Int), (∀ m ∈ cs, m ∈ lts n) → catO (fun m => addF k (n : Int) (L : Int) q (l ++ [m]) m) cs = some (itW n d (cs.map fun m => l ++ [m])) := by
      intro cs
      induction cs with
      | nil => intro _; rw [catO, List.map_nil, itW_nil]
      | cons m t ih =>
        intro hm
        have h4 := addF_is n L h1 h3 hL k hk d q (l ++ [m]) (by simp; omega) (by omega) (fun x hx2 => by
          rcases List.mem_append.1 hx2 with h5 | h5
          · exact hx x h5
          · rw [List.mem_singleton.1 h5]; exact hm m (by simp))
        rw [lastL_snoc] at h4
        rw [catO, h4, Option.bind_some, ih (fun x hx => hm x (by simp [hx])), Option.bind_some, List.map_cons, show (l ++ [m]) :: t.map (fun m => l ++ [m]) = [l ++ [m]] ++ t.map (fun m => l ++ [m]) from rfl, itW_append]
    rw [hcat _ (fun m hm => (List.mem_filter.1 hm).1), itW]
    show some (itW n d (ext n l)) = _
    rw [List.flatMap_cons, List.flatMap_nil, List.append_nil]
theorem pow6 (L : Nat) (hL : L ≤ 8) : 6 ^ L ≤ 1679616 := by
  calc 6 ^ L ≤ 6 ^ 8 := Nat.pow_le_pow_right (by omega) hL
    _ = 1679616 := by decide
theorem words_is (n L : Nat) (h1 : 1 ≤ n) (h3 : n ≤ 3) (hL : L ≤ 8) (k : Nat) (hk : 200 ≤ k) : impl_wordsOf.f k (n : Int) (L : Int) = some (itW n L [[]]) := by
  have h := addF_is n L h1 h3 (by omega) k (by omega) L k [] (by simp) (by omega) (by simp)
  have hl := itW_len h3 L [[]]
  have hp := pow6 L hL
  rw [impl_wordsOf.f, show (0 : Int) = lastL [] from rfl, h, Option.bind_some, if_pos (by simp only [List.length_cons, List.length_nil] at hl; omega)]
/-! the reference's -/
theorem l7L0 : KB.spec_l7Letter.f 0 = some (1) := by kernel_rfl
theorem l7L1 : KB.spec_l7Letter.f 1 = some (-1) := by kernel_rfl
theorem l7L2 : KB.spec_l7Letter.f 2 = some (2) := by kernel_rfl
theorem l7L3 : KB.spec_l7Letter.f 3 = some (-2) := by kernel_rfl
theorem l7L4 : KB.spec_l7Letter.f 4 = some (3) := by kernel_rfl
theorem l7L5 : KB.spec_l7Letter.f 5 = some (-3) := by kernel_rfl
theorem l7Letter_f (c : Nat) (hc : c < 6) : KB.spec_l7Letter.f (c : Int) = some (lt6 c) := by
  match c, hc with
  | 0, _ => exact l7L0
  | 1, _ => exact l7L1
  | 2, _ => exact l7L2
  | 3, _ => exact l7L3
  | 4, _ => exact l7L4
  | 5, _ => exact l7L5
theorem rdL1 (xs : List (List Int)) (j : Nat) (h : j < xs.length) : KB.rd_L1 xs (j : Int) = xs[j] := by
  unfold KB.rd_L1; simp [h]
theorem last_at (w : List Int) (i : Nat) (h : w.length = i + 1) : rd w (i : Int) = lastL w := by
  rcases List.eq_nil_or_concat w with rfl | ⟨t, m, rfl⟩
  · simp at h
  · have : t.length = i := by simpa using h
    subst this
    unfold rd lastL
    simp
theorem lts_drop (n c : Nat) (h : c < 2 * n) : (lts n).drop c = lt6 c :: (lts n).drop (c + 1) := by
  have hl : c < (lts n).length := by simp [lts]; omega
  rw [List.drop_eq_getElem_cons hl]
  congr 1
  simp [lts]
/-- what a word and the letters from one on give -/
def extD (n : Nat) (w : List Int) (c : Nat) : List (List Int) := (((lts n).drop c).filter fun m => m != -(lastL w)).map fun m => w ++ [m]
theorem extD_len {n : Nat} (hn : n ≤ 3) (w : List Int) (c : Nat) : (extD n w c).length ≤ 6 := by
  unfold extD
  rw [List.length_map]
  refine Nat.le_trans (List.length_filter_le _ _) ?_
  simp [lts]; omega
end Go.Proofs.Ytlbhfbanbdahdaa.Q
