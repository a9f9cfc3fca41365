/- The words of a length as the reference lists them, round by round. Conditions stand in each theorem. -/
import Derived.Test.YtlbhfbanbdahdaaWF
namespace Go.Proofs.Ytlbhfbanbdahdaa.Q
open Go.RowKit Go.Proofs.YtlbhfbanbdahdaaW.PrintWords Go.Proofs.YtlbhfbanbdahdaaW.PrintLast Go.Proofs.YtlbhfbanbdahdaaW.PrintMore Go.Proofs.YtlbhfbanbdahdaaM Go.Proofs.Ytlbhfbanbdahdaa.K
set_option linter.unusedVariables false
set_option linter.unusedSimpArgs false
theorem lastL_ok {n i : Nat} (h3 : n ≤ 3) {w : List Int} (h : Wd n i w) : -3 ≤ lastL w ∧ lastL w ≤ 3 := by
  unfold lastL
  rcases List.eq_nil_or_concat w with h0 | ⟨t, m, h0⟩
  · rw [h0]; simp
  · have h4 := lts_mem h3 (h.2 m (by rw [h0]; simp))
    rw [h0]
    simp
    omega
theorem own_is (w : List Int) (h : w.length < 1000) : KB.spec_l1Own.f w = some w := by
  unfold KB.spec_l1Own.f
  rw [Option.bind_some, if_pos (by simp; omega)]
  simp
theorem wneg7 (x : Int) (h : -3 ≤ x ∧ x ≤ 3) : wrap64 (-x) = -x := by unfold wrap64; omega
theorem wpre (i : Nat) (h : i < 100) (h0 : i ≠ 0) : wrap64 ((i : Int) - 1) = ((i - 1 : Nat) : Int) := by unfold wrap64; omega
theorem wdbl (n : Nat) (h : n ≤ 3) : wrap64 (2 * (n : Int)) = ((2 * n : Nat) : Int) := by unfold wrap64; omega
theorem extD_step (n : Nat) (w : List Int) (c : Nat) (h : c < 2 * n) : extD n w c = (if (lt6 c != -(lastL w)) = true then [w ++ [lt6 c]] else []) ++ extD n w (c + 1) := by
  unfold extD
  rw [lts_drop n c h, List.filter_cons]
  split <;> simp
theorem extD_end (n : Nat) (w : List Int) (c : Nat) (h : c = 2 * n) : extD n w c = [] := by
  unfold extD
  rw [List.drop_eq_nil_of_le (by simp [lts]; omega)]; rfl
/-- the test of one letter -/
theorem l2_test (n L i j c : Nat) (h3 : n ≤ 3) (hi : i < 100) (xs : List (List Int)) (hj : j < xs.length) (w : List Int) (hw : KB.rd_L1 xs (j : Int) = w) (hx : Wd n i w) (hc : c < 2 * n) (k : Nat) (acc : List (List Int)) :
    KB.spec_l7All.l2 (k + 1) (n : Int) (L : Int) xs (i : Int) acc (j : Int) (c : Int) = KB.spec_l7All.j3 k (n : Int) (L : Int) xs (i : Int) acc (j : Int) (c : Int) (lt6 c != -(lastL w)) := by
  have hc6 : c < 6 := by omega
  have hl6 := lt6_ok c hc6
  have hlast := lastL_ok h3 hx
  have hlen := hx.1
  rw [KB.spec_l7All.l2, wdbl n h3, if_pos (by omega)]
  by_cases h0 : i = 0
  · subst h0
    rw [if_pos (show ((0 : Nat) : Int) = 0 from rfl)]
    have hnil : w = [] := List.length_eq_zero_iff.1 hlen
    have : (lt6 c != -(lastL w)) = true := by rw [hnil]; simp [lastL]; exact hl6.1
    rw [this]
  · rw [if_neg (by omega), l7Letter_f c hc6, Option.bind_some, if_pos (by omega), if_pos (by omega), wpre i hi h0, hw, if_pos (by omega), if_pos (by omega), last_at _ (i - 1) (by omega), wneg7 _ hlast]
theorem l2_put (n L i j c : Nat) (h3 : n ≤ 3) (hi : i < 100) (xs : List (List Int)) (hj : j < xs.length) (w : List Int) (hw : KB.rd_L1 xs (j : Int) = w) (hx : Wd n i w) (hc : c < 2 * n) (k : Nat) (acc : List (List Int)) (ha : acc.length < 1000000000) :
    KB.spec_l7All.j3 (k + 1) (n : Int) (L : Int) xs (i : Int) acc (j : Int) (c : Int) true = KB.spec_l7All.l2 k (n : Int) (L : Int) xs (i : Int) (acc ++ [w ++ [lt6 c]]) (j : Int) ((c + 1 : Nat) : Int) := by
  have hlen := hx.1
  rw [KB.spec_l7All.j3, if_pos rfl, if_pos (by omega), if_pos (by omega), hw, own_is w (by omega), Option.bind_some, l7Letter_f c (by omega), Option.bind_some, if_pos (by omega), if_pos (by omega), w64 c (by omega)]
theorem l2_skip (n L i j c : Nat) (hc : c < 6) (xs : List (List Int)) (k : Nat) (acc : List (List Int)) :
    KB.spec_l7All.j3 (k + 1) (n : Int) (L : Int) xs (i : Int) acc (j : Int) (c : Int) false = KB.spec_l7All.l2 k (n : Int) (L : Int) xs (i : Int) acc (j : Int) ((c + 1 : Nat) : Int) := by
  rw [KB.spec_l7All.j3, if_neg (by simp), w64 c (by omega)]
theorem l2_end (n L i j : Nat) (h3 : n ≤ 3) (hj : j < 1000000000) (xs : List (List Int)) (k : Nat) (acc : List (List Int)) :
    KB.spec_l7All.l2 (k + 1) (n : Int) (L : Int) xs (i : Int) acc (j : Int) ((2 * n : Nat) : Int) = KB.spec_l7All.l1 k (n : Int) (L : Int) xs (i : Int) acc ((j + 1 : Nat) : Int) := by
  rw [KB.spec_l7All.l2, wdbl n h3, if_neg (by omega), w64 j (by omega)]
theorem all_l2 (n L i : Nat) (h3 : n ≤ 3) (hi : i < 100) (xs : List (List Int)) (j : Nat) (hj : j < xs.length) (hj2 : j < 1000000000) (w : List Int) (hw : KB.rd_L1 xs (j : Int) = w) (hx : Wd n i w) : ∀ (e k c : Nat) (acc : List (List Int)), c + e = 2 * n → acc.length + e ≤ 1000000000 →
    ∃ u, u ≤ 2 * e + 1 ∧ KB.spec_l7All.l2 (k + u) (n : Int) (L : Int) xs (i : Int) acc (j : Int) (c : Int) = KB.spec_l7All.l1 k (n : Int) (L : Int) xs (i : Int) (acc ++ extD n w c) ((j + 1 : Nat) : Int) := by
  intro e
  induction e with
  | zero =>
    intro k c acc hc ha
    refine ⟨1, by omega, ?_⟩
    have hc2 : c = 2 * n := by omega
    rw [extD_end n w c hc2, List.append_nil, hc2, l2_end n L i j h3 hj2]
  | succ e ih =>
    intro k c acc hc ha
    have hc2 : c < 2 * n := by omega
    by_cases hb : (lt6 c != -(lastL w)) = true
    · obtain ⟨u, hu, h5⟩ := ih k (c + 1) (acc ++ [w ++ [lt6 c]]) (by omega) (by simp; omega)
      refine ⟨u + 1 + 1, by omega, ?_⟩
      rw [show k + (u + 1 + 1) = k + u + 1 + 1 from rfl, l2_test n L i j c h3 hi xs hj w hw hx hc2, hb, l2_put n L i j c h3 hi xs hj w hw hx hc2 _ _ (by omega), h5, extD_step n w c hc2, if_pos hb, List.append_assoc]
    · obtain ⟨u, hu, h5⟩ := ih k (c + 1) acc (by omega) (by omega)
      refine ⟨u + 1 + 1, by omega, ?_⟩
      rw [show k + (u + 1 + 1) = k + u + 1 + 1 from rfl, l2_test n L i j c h3 hi xs hj w hw hx hc2, show (lt6 c != -(lastL w)) = false from by simpa using hb, l2_skip n L i j c (by omega), h5, extD_step n w c hc2, if_neg hb, List.nil_append]
theorem all_l1 (n L i : Nat) (h3 : n ≤ 3) (hi : i < 100) (xs : List (List Int)) (hxs : ∀ w ∈ xs, Wd n i w) (hlen : xs.length < 100000000) : ∀ (e k j : Nat) (acc : List (List Int)), j + e = xs.length → acc.length + 6 * e ≤ 1000000000 →
    ∃ u, u ≤ 14 * e + 1 ∧ KB.spec_l7All.l1 (k + u) (n : Int) (L : Int) xs (i : Int) acc (j : Int) = KB.spec_l7All.l0 k (n : Int) (L : Int) (acc ++ (xs.drop j).flatMap (ext n)) ((i + 1 : Nat) : Int) := by
  intro e
  induction e with
  | zero =>
    intro k j acc hj ha
    refine ⟨1, by omega, ?_⟩
    rw [KB.spec_l7All.l1, if_neg (by omega), List.drop_eq_nil_of_le (by omega), List.flatMap_nil, List.append_nil, w64 i (by omega)]
  | succ e ih =>
    intro k j acc hj ha
    have hj2 : j < xs.length := by omega
    have hel : (extD n xs[j] 0).length ≤ 6 := extD_len h3 _ _
    obtain ⟨u, hu, h5⟩ := ih k (j + 1) (acc ++ extD n xs[j] 0) (by omega) (by rw [List.length_append]; omega)
    obtain ⟨u2, hu2, h6⟩ := all_l2 n L i h3 hi xs j hj2 (by omega) xs[j] (rdL1 xs j hj2) (hxs _ (List.getElem_mem hj2)) (2 * n) (k + u) 0 acc (by omega) (by omega)
    refine ⟨u + u2 + 1, by omega, ?_⟩
    rw [show k + (u + u2 + 1) = k + u + u2 + 1 by omega, KB.spec_l7All.l1, if_pos (by omega)]
    have h6' := h6
    rw [show ((0 : Nat) : Int) = 0 from rfl] at h6'
    rw [h6', h5, List.append_assoc, List.drop_eq_getElem_cons hj2, List.flatMap_cons]
    rfl
theorem all_l0 (n L : Nat) (h3 : n ≤ 3) (hL : L ≤ 8) : ∀ (d k i : Nat) (xs : List (List Int)), i + d = L → (∀ w ∈ xs, Wd n i w) → xs.length ≤ 6 ^ i →
    ∃ u, u ≤ 100000000 * d + 1 ∧ KB.spec_l7All.l0 (k + u) (n : Int) (L : Int) xs (i : Int) = some (itW n d xs) := by
  intro d
  induction d with
  | zero =>
    intro k i xs hi hxs hl
    refine ⟨1, by omega, ?_⟩
    rw [KB.spec_l7All.l0, if_neg (by omega), itW]
  | succ d ih =>
    intro k i xs hi hxs hl
    have hp := pow6 i (by omega)
    have hf := flat_len h3 xs
    obtain ⟨u, hu, h5⟩ := ih k (i + 1) (xs.flatMap (ext n)) (by omega) (fun v hv => by
      obtain ⟨w, hw, hv⟩ := List.mem_flatMap.1 hv
      exact ext_ok (hxs w hw) v hv) (by rw [Nat.pow_succ]; omega)
    obtain ⟨u2, hu2, h6⟩ := all_l1 n L i h3 (by omega) xs hxs (by omega) xs.length (k + u) 0 [] (by omega) (by simp; omega)
    refine ⟨u + u2 + 1, by omega, ?_⟩
    rw [show k + (u + u2 + 1) = k + u + u2 + 1 by omega, KB.spec_l7All.l0, if_pos (by omega)]
    have h6' := h6
    rw [show ((0 : Nat) : Int) = 0 from rfl] at h6'
    rw [h6', List.nil_append, List.drop_zero, h5, itW]
theorem l7All_up (n L : Int) (k : Nat) (r : List (List Int)) (h : KB.spec_l7All.f k n L = some r) : ∀ j, KB.spec_l7All.f (k + j) n L = some r
  | 0 => h
  | j + 1 => KB.spec_l7All.mono n L (k + j) r (l7All_up n L k r h j)
theorem all_is (n L : Nat) (h3 : n ≤ 3) (hL : L ≤ 8) (k : Nat) (hk : 1000000000 ≤ k) : KB.spec_l7All.f k (n : Int) (L : Int) = some (itW n L [[]]) := by
  obtain ⟨u, hu, h⟩ := all_l0 n L h3 hL L 0 0 [[]] (by omega) (by simp [Wd]) (by simp)
  obtain ⟨j, rfl⟩ := Nat.exists_eq_add_of_le (show 0 + u ≤ k by omega)
  exact l7All_up _ _ _ _ (by rw [KB.spec_l7All.f]; exact h) j
end Go.Proofs.Ytlbhfbanbdahdaa.Q
