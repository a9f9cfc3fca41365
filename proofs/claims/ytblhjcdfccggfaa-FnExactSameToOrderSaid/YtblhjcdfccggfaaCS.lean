/- SameToOrder: program and reference answer alike. Conditions stand in each theorem. -/
import Derived.Test.YtblhjcdfccggfaaCJ
import Derived.Test.YtblhjcdfccggfaaQM
import Derived.Test.YtblhjcdfccggfaaQG
import Derived.Test.YtblhjcdfccggfaaQS
namespace Go.Proofs.Ytblhjcdfccggfaa.Q
open Go.RowKit Go.Proofs.YtblhjcdfccggfaaW.PrintWords Go.Proofs.YtblhjcdfccggfaaW.PrintLast Go.Proofs.YtblhjcdfccggfaaW.PrintMore Go.Proofs.YtblhjcdfccggfaaM Go.Proofs.Ytblhjcdfccggfaa.K Go.Proofs.Ytblhjcdfccggfaa.KL
set_option linter.unusedVariables false
set_option linter.unusedSimpArgs false
/-! the same coefficients to an order -/
theorem part1 (s : List Int) (G : List Int → Int) (h : RepG s G) : s.take 6 = (Ls 1).map G := by
  apply List.ext_getElem?
  intro i
  by_cases hi : i < 6
  · have h1 := h.g1 i hi
    have hl := h.len
    rw [List.getElem?_take_of_lt hi, List.getElem?_map, Ls1_at i hi, List.getElem?_eq_getElem (by omega)]
    rw [List.getD_eq_getElem?_getD, List.getElem?_eq_getElem (by omega)] at h1
    exact congrArg some h1
  · rw [List.getElem?_eq_none (by rw [List.length_take]; omega), List.getElem?_eq_none (by rw [List.length_map, Ls1_len]; omega)]
theorem part2 (s : List Int) (G : List Int → Int) (h : RepG s G) : (s.drop 6).take 36 = (Ls 2).map G := by
  apply List.ext_getElem?
  intro i
  by_cases hi : i < 36
  · have h1 := h.g2 (i / 6) (i % 6) (by omega) (by omega)
    have hl := h.len
    have h2 := Ls2_at (i / 6) (by omega) (i % 6) (by omega)
    rw [show 6 + i / 6 * 6 + i % 6 = 6 + i by omega] at h1
    rw [show 6 * (i / 6) + i % 6 = i by omega] at h2
    rw [List.getElem?_take_of_lt hi, List.getElem?_drop, List.getElem?_map, h2, List.getElem?_eq_getElem (by omega)]
    rw [List.getD_eq_getElem?_getD, List.getElem?_eq_getElem (by omega)] at h1
    exact congrArg some h1
  · rw [List.getElem?_eq_none (by rw [List.length_take]; omega), List.getElem?_eq_none (by rw [List.length_map, Ls2_len]; omega)]
theorem part3 (s : List Int) (G : List Int → Int) (h : RepG s G) : (s.drop 42).take 216 = (Ls 3).map G := by
  apply List.ext_getElem?
  intro i
  by_cases hi : i < 216
  · have h1 := h.g3 (i / 36) (i % 36 / 6) (i % 6) (by omega) (by omega) (by omega)
    have hl := h.len
    have h2 := Ls3_at (i / 36) (by omega) (i % 36 / 6) (by omega) (i % 6) (by omega)
    rw [show 42 + i / 36 * 36 + i % 36 / 6 * 6 + i % 6 = 42 + i by omega] at h1
    rw [show 36 * (i / 36) + 6 * (i % 36 / 6) + i % 6 = i by omega] at h2
    rw [List.getElem?_take_of_lt hi, List.getElem?_drop, List.getElem?_map, h2, List.getElem?_eq_getElem (by omega)]
    rw [List.getD_eq_getElem?_getD, List.getElem?_eq_getElem (by omega)] at h1
    exact congrArg some h1
  · rw [List.getElem?_eq_none (by rw [List.length_take]; omega), List.getElem?_eq_none (by rw [List.length_map, Ls3_len]; omega)]
theorem equal_l0 (a b : List Int) (h : a.length = b.length) (hm : a.length < 2000000) : ∀ (n k i : Nat), i + n = a.length → n < k → slices_Equal_int_int.l0 k a b (a.length : Int) (i : Int) = some (a.drop i == b.drop i)
  | 0, k + 1, i, hi, _ => by
    rw [slices_Equal_int_int.l0, if_neg (by omega), List.drop_eq_nil_of_le (by omega), List.drop_eq_nil_of_le (by omega)]; rfl
  | n + 1, k + 1, i, hi, hk => by
    have h1 : i < a.length := by omega
    have h2 : i < b.length := by omega
    rw [slices_Equal_int_int.l0, if_pos (by omega), if_pos (by omega), if_pos (by omega), if_pos (by omega), rd_nat _ _ h1, rd_nat _ _ h2, w64 i (by omega), List.drop_eq_getElem_cons h1, List.drop_eq_getElem_cons h2, equal_l0 a b h hm n k (i + 1) (by omega) (by omega)]
    have hc : (a[i] :: a.drop (i + 1) == b[i] :: b.drop (i + 1)) = ((a[i] == b[i]) && (a.drop (i + 1) == b.drop (i + 1))) := rfl
    rw [hc]
    by_cases e : a[i] = b[i]
    · rw [if_pos e, beq_iff_eq.2 e, Bool.true_and]
    · rw [if_neg e, beq_eq_false_iff_ne.2 e, Bool.false_and]
theorem equal_f (a b : List Int) (hm : a.length < 2000000) (k : Nat) (hk : a.length < k) : slices_Equal_int_int.f k a b = some (a == b) := by
  rw [slices_Equal_int_int.f]
  by_cases h : a.length = b.length
  · rw [if_pos (by omega)]
    have := equal_l0 a b h hm a.length k 0 (by omega) (by omega)
    simpa using this
  · rw [if_neg (by omega)]
    congr 1
    symm
    simp only [beq_eq_false_iff_ne, ne_eq]
    intro e
    exact h (by rw [e])
theorem areWords_f (u v : List Int) (hu : u.length < 2000000) (hv : v.length < 2000000) (k : Nat) (hk : u.length + v.length + 100 < k) : impl_areWords.f k [u, v] = some (okW u && okW v) := by
  obtain ⟨k, rfl⟩ : ∃ q, k = q + 3 := ⟨k - 3, by omega⟩
  have h1 : ∀ q, u.length + v.length + 10 < q → impl_areWords_1.f q u = some (!okW u) := fun q hq => by rw [impl_areWords_1.f, isWord_f u q (by omega) (by omega)]; rfl
  have h2 : ∀ q, u.length + v.length + 10 < q → impl_areWords_1.f q v = some (!okW v) := fun q hq => by rw [impl_areWords_1.f, isWord_f v q (by omega) (by omega)]; rfl
  simp only [impl_areWords.f, slices_ContainsFunc_rows_int.f, slices_IndexFunc_rows_int.f, slices_IndexFunc_rows_int.l0, List.length_cons, List.length_nil]
  rw [if_pos (by omega), if_pos (by omega), if_pos (by omega), show rdOf [] [u, v] 0 = u from rfl, h1 _ (by omega), Option.bind_some]
  cases okW u with
  | false => simp
  | true =>
    simp only [Bool.not_true, Bool.false_eq_true, if_false]
    rw [show wrap64 (0 + 1) = 1 from w1, if_pos (by omega), if_pos (by omega), if_pos (by omega), show rdOf [] [u, v] 1 = v from rfl, h2 _ (by omega), Option.bind_some]
    cases okW v with
    | false => simp
    | true =>
      simp only [Bool.not_true, Bool.false_eq_true, if_false]
      rw [show wrap64 (1 + 1) = 2 from w2, if_neg (by omega)]
      simp
def sameD (G H : List Int → Int) (d : Nat) : Bool := (Ls d).map G == (Ls d).map H
theorem same_l0 (G H : List Int → Int) (n : Nat) (hn : n ≤ 3) : ∀ (m k i : Nat), i + m = n + 1 → m + 300 < k → impl_SameToOrder.l0 k (tab G) (tab H) ((n + 1 : Nat) : Int) (i : Int) = some (((List.range' i m).all fun d => sameD G H d), true)
  | 0, k + 1, i, hi, _ => by rw [impl_SameToOrder.l0, if_neg (by omega)]; rfl
  | m + 1, k + 1, i, hi, hk => by
    have hl := Ls_len i (by omega)
    rw [impl_SameToOrder.l0, if_pos (by omega), if_pos (by omega), if_pos (by omega), tab_at _ i (by omega), tab_at _ i (by omega), equal_f _ _ (by rw [List.length_map]; omega) k (by rw [List.length_map]; omega), Option.bind_some, w64 i (by omega), same_l0 G H n hn m k (i + 1) (by omega) (by omega), List.range'_succ, List.all_cons]
    show (if sameD G H i = true then _ else _) = _
    cases sameD G H i <;> simp
theorem same_is (u v : List Int) (n : Int) (hu : u.length < 2000000) (hv : v.length < 2000000) (k : Nat) (hk : 2 * u.length + 2 * v.length + 3000 < k) (r : Bool × Bool) (hr : r = if (okW u && okW v) = true ∧ 0 ≤ n ∧ n ≤ 3 then (((List.range (n.toNat + 1)).all fun d => sameD (cG u) (cG v) d), true) else (false, false)) :
    spec_SameToOrder.f k u v n = some r ∧ impl_SameToOrder.f k u v n = some r := by
  rw [spec_SameToOrder.f, impl_SameToOrder.f, areWords_f u v hu hv k (by omega), l2Word_f u k (by omega) (by omega), l2Word_f v k (by omega) (by omega), Option.bind_some, Option.bind_some, Option.bind_some]
  by_cases hw : (okW u && okW v) = true
  · have hw2 := hw
    rw [Bool.and_eq_true] at hw2
    obtain ⟨c1, s, c2, c3⟩ := coefsOk u hw2.1 k (by omega)
    obtain ⟨d1, t, d2, d3⟩ := coefsOk v hw2.2 k (by omega)
    rw [if_pos hw, if_pos hw2.1, if_pos hw2.2]
    by_cases hn : 0 ≤ n ∧ n ≤ 3
    · rw [if_pos ⟨hw, hn⟩] at hr
      have hin : spec_l1In.f n 0 3 = some true := by unfold spec_l1In.f; rw [if_pos hn.1, decide_eq_true hn.2]
      rw [if_neg (by omega), if_neg (by omega), hin, c1, c2, d1, d2]
      simp only [Option.bind_some, if_true]
      have hi := same_l0 (cG u) (cG v) n.toNat (by omega) (n.toNat + 1) k 0 (by omega) (by omega)
      rw [show wrap64 (n + 1) = ((n.toNat + 1 : Nat) : Int) by unfold wrap64; omega]
      refine ⟨?_, by rw [hr]; simpa [List.range_eq_range'] using hi⟩
      rw [part1 s _ c3, part1 t _ d3, part2 s _ c3, part2 t _ d3, part3 s _ c3, part3 t _ d3, hr]
      have e0 : sameD (cG u) (cG v) 0 = true := by
        show ([cG u []] == [cG v []]) = true
        rw [(cG_fine u).1, (cG_fine v).1]; rfl
      have E1 : ((Ls 1).map (cG u) == (Ls 1).map (cG v)) = sameD (cG u) (cG v) 1 := rfl
      have E2 : ((Ls 2).map (cG u) == (Ls 2).map (cG v)) = sameD (cG u) (cG v) 2 := rfl
      have E3 : ((Ls 3).map (cG u) == (Ls 3).map (cG v)) = sameD (cG u) (cG v) 3 := rfl
      have hcase : n = 0 ∨ n = 1 ∨ n = 2 ∨ n = 3 := by omega
      rw [E1, E2, E3]
      clear E1 E2 E3 hi hr c1 c2 c3 d1 d2 d3
      generalize sameD (cG u) (cG v) = f at *
      rcases hcase with rfl | rfl | rfl | rfl
      · simp [e0]
      · cases h1 : f 1 <;> simp [List.range_succ, e0, h1]
      · cases h1 : f 1 <;> cases h2 : f 2 <;> simp [List.range_succ, e0, h1, h2]
      · cases h1 : f 1 <;> cases h2 : f 2 <;> cases h3 : f 3 <;> simp [List.range_succ, e0, h1, h2, h3]
    · rw [if_neg (fun h => hn h.2)] at hr
      have hin : spec_l1In.f n 0 3 = some false := by
        unfold spec_l1In.f
        by_cases h0 : n ≥ 0
        · rw [if_pos h0, decide_eq_false (by omega)]
        · rw [if_neg h0]
      rw [hin, hr]
      refine ⟨rfl, ?_⟩
      by_cases h0 : n < 0
      · rw [if_pos h0]
      · rw [if_neg h0, if_pos (by omega)]
  · rw [if_neg (fun h => hw h.1)] at hr
    rw [if_neg hw, hr]
    refine ⟨?_, rfl⟩
    by_cases h1 : okW u = true
    · rw [if_pos h1, if_neg (fun h2 => hw (by rw [h1, h2]; rfl))]
    · rw [if_neg h1]
end Go.Proofs.Ytblhjcdfccggfaa.Q
