/- CountCoefficients: program and reference answer alike. Conditions stand in each theorem. -/
import Derived.Test.YtblhjcdfccggfaaCJ
import Derived.Test.YtblhjcdfccggfaaQV
import Derived.Test.YtblhjcdfccggfaaQU
namespace Go.Proofs.Ytblhjcdfccggfaa.Q
open Go.RowKit Go.Proofs.YtblhjcdfccggfaaW.PrintWords Go.Proofs.YtblhjcdfccggfaaW.PrintLast Go.Proofs.YtblhjcdfccggfaaW.PrintMore Go.Proofs.YtblhjcdfccggfaaM Go.Proofs.Ytblhjcdfccggfaa.K Go.Proofs.Ytblhjcdfccggfaa.KL
set_option linter.unusedVariables false
set_option linter.unusedSimpArgs false
/-! how many coefficients are not 0 -/
def bump (m : List Int) (d c : Nat) : List Int := m.set d (m.getD d 0 + (c : Int))
theorem bump_len (m : List Int) (d c : Nat) : (bump m d c).length = m.length := by simp [bump]
theorem bump_zero (m : List Int) (d : Nat) (h : d < m.length) : bump m d 0 = m := by
  unfold bump
  rw [List.getD_eq_getElem?_getD, List.getElem?_eq_getElem h]
  simp
theorem bump_get (m : List Int) (d c : Nat) (h : d < m.length) : (bump m d c).getD d 0 = m.getD d 0 + (c : Int) := by
  unfold bump
  rw [getD_set _ _ _ _ h, if_pos rfl]
theorem bump_bump (m : List Int) (d a b : Nat) (h : d < m.length) : bump (bump m d a) d b = bump m d (a + b) := by
  have h1 := bump_get m d a h
  have h2 : bump (bump m d a) d b = (bump m d a).set d ((bump m d a).getD d 0 + (b : Int)) := rfl
  rw [h2, h1]
  unfold bump
  rw [List.set_set]
  congr 1
  push_cast
  omega
def cntD (G : List Int → Int) (L : List (List Int)) : Nat := L.countP fun l => G l != 0
theorem cnt_le (G : List Int → Int) (L : List (List Int)) : cntD G L ≤ L.length := List.countP_le_length
def Small (m : List Int) : Prop := m.length = 4 ∧ ∀ i, i < 4 → 0 ≤ m.getD i 0 ∧ m.getD i 0 ≤ 100000
theorem scount_l1 (G : List Int → Int) (hG : Fine G) (s : List Int) (hs : RepG s G) (d : Nat) (hd : d < 4) : ∀ (n k i : Nat) (m : List Int), i + n = (Ls d).length → n + 10 < k → m.length = 4 → 0 ≤ m.getD d 0 → m.getD d 0 + (n : Int) ≤ 1000000 →
    spec_CountCoefficients.l1 k (d : Int) (Ls d) (i : Int) s m = spec_CountCoefficients.l0 (k - n - 1) ((d + 1 : Nat) : Int) s (bump m d (cntD G ((Ls d).drop i)))
  | 0, k + 1, i, m, hi, _, hm, _, _ => by
    rw [spec_CountCoefficients.l1, if_neg (by omega), List.drop_eq_nil_of_le (by omega), w64 d (by omega)]
    show _ = spec_CountCoefficients.l0 (k + 1 - 0 - 1) _ _ (bump m d 0)
    rw [show k + 1 - 0 - 1 = k by omega, bump_zero m d (by omega)]
  | n + 1, k + 1, i, m, hi, hk, hm, h0, h1 => by
    have h : i < (Ls d).length := by omega
    have hl := Ls_len d hd
    have ho := Ls_ok d hd _ (List.getElem_mem h)
    rw [spec_CountCoefficients.l1, if_pos (by omega), if_pos (by omega), rdOf_nat _ _ h, get_list G hG s hs _ ho.1, Option.bind_some, w64 i (by omega), List.drop_eq_getElem_cons h, show k + 1 - (n + 1) - 1 = k - n - 1 by omega]
    by_cases e : G (Ls d)[i] = 0
    · rw [if_pos e, scount_l1 G hG s hs d hd n k (i + 1) m (by omega) (by omega) hm h0 (by omega)]
      simp only [cntD]
      rw [List.countP_cons_of_neg (by simp [e])]
    · have hb : m.set (d : Int).toNat (wrap64 (rd m (d : Int) + 1)) = bump m d 1 := by
        unfold bump rd
        rw [Int.toNat_natCast]
        congr 1
        unfold wrap64
        omega
      have hg := bump_get m d 1 (by omega)
      rw [if_neg e, if_pos (by omega), if_pos (by omega), hb, scount_l1 G hG s hs d hd n k (i + 1) (bump m d 1) (by omega) (by omega) (by rw [bump_len]; exact hm) (by omega) (by omega), bump_bump m d _ _ (by omega)]
      simp only [cntD]
      rw [List.countP_cons_of_pos (by simpa using e), Nat.add_comm 1]
theorem icount_l1 (G : List Int → Int) (d : Nat) (hd : d < 4) : ∀ (n k i : Nat) (m : List Int), i + n = (Ls d).length → n + 10 < k → m.length = 4 → 0 ≤ m.getD d 0 → m.getD d 0 + (n : Int) ≤ 1000000 →
    impl_CountCoefficients.l1 k (d : Int) (tab G) (d : Int) ((Ls d).map G) (((Ls d).map G).length : Int) (i : Int) m = impl_CountCoefficients.l0 (k - n - 1) (tab G) ((d + 1 : Nat) : Int) (bump m d (cntD G ((Ls d).drop i)))
  | 0, k + 1, i, m, hi, _, hm, _, _ => by
    rw [impl_CountCoefficients.l1, if_neg (by rw [List.length_map]; omega), List.drop_eq_nil_of_le (by omega), w64 d (by omega)]
    show _ = impl_CountCoefficients.l0 (k + 1 - 0 - 1) _ _ (bump m d 0)
    rw [show k + 1 - 0 - 1 = k by omega, bump_zero m d (by omega)]
  | n + 1, k + 1, i, m, hi, hk, hm, h0, h1 => by
    have h : i < (Ls d).length := by omega
    have hl := Ls_len d hd
    rw [impl_CountCoefficients.l1, if_pos (by rw [List.length_map]; omega), if_pos (by omega), if_pos (by rw [List.length_map]; omega), rd_nat _ _ (by rw [List.length_map]; exact h), List.getElem_map, w64 i (by omega), List.drop_eq_getElem_cons h, show k + 1 - (n + 1) - 1 = k - n - 1 by omega]
    by_cases e : G (Ls d)[i] = 0
    · rw [if_pos e, icount_l1 G d hd n k (i + 1) m (by omega) (by omega) hm h0 (by omega)]
      simp only [cntD]
      rw [List.countP_cons_of_neg (by simp [e])]
    · have hb : m.set (d : Int).toNat (wrap64 (rd m (d : Int) + 1)) = bump m d 1 := by
        unfold bump rd
        rw [Int.toNat_natCast]
        congr 1
        unfold wrap64
        omega
      have hg := bump_get m d 1 (by omega)
      rw [if_neg e, if_pos (by omega), if_pos (by omega), hb, icount_l1 G d hd n k (i + 1) (bump m d 1) (by omega) (by omega) (by rw [bump_len]; exact hm) (by omega) (by omega), bump_bump m d _ _ (by omega)]
      simp only [cntD]
      rw [List.countP_cons_of_pos (by simpa using e), Nat.add_comm 1]
def counts (G : List Int → Int) : Nat → Nat → List Int → List Int
  | 0, _, m => m
  | n + 1, d, m => counts G n (d + 1) (bump m d (cntD G (Ls d)))
theorem count_l0 (G : List Int → Int) (hG : Fine G) (s : List Int) (hs : RepG s G) : ∀ (n d k : Nat) (m : List Int), d + n = 4 → 300 * n + 500 < k → m.length = 4 → (∀ i, d ≤ i → i < 4 → m.getD i 0 = 0) →
    spec_CountCoefficients.l0 k (d : Int) s m = some (counts G n d m, true) ∧ impl_CountCoefficients.l0 k (tab G) (d : Int) m = some (counts G n d m, true)
  | 0, d, k + 1, m, hd, _, _, _ => by
    rw [spec_CountCoefficients.l0, impl_CountCoefficients.l0, if_neg (by omega), if_neg (by omega)]; exact ⟨rfl, rfl⟩
  | n + 1, d, k + 1, m, hd, hk, hm, h0 => by
    have hl := Ls_len d (by omega)
    have hz := h0 d (by omega) (by omega)
    have a1 := scount_l1 G hG s hs d (by omega) (Ls d).length k 0 m (by omega) (by omega) hm (by omega) (by omega)
    have a2 := icount_l1 G d (by omega) (Ls d).length k 0 m (by omega) (by omega) hm (by omega) (by omega)
    rw [spec_CountCoefficients.l0, impl_CountCoefficients.l0, if_pos (by omega), if_pos (by omega), if_pos (by omega), (l8Lists_is d (by omega) k (by omega)).1, Option.bind_some, tab_at _ d (by omega)]
    have h3 : ∀ i, d + 1 ≤ i → i < 4 → (bump m d (cntD G (Ls d))).getD i 0 = 0 := fun i hi hi4 => by
      unfold bump
      rw [getD_set _ _ _ _ (by omega), if_neg (by omega), h0 i (by omega) hi4]
    have ih := count_l0 G hG s hs n (d + 1) (k - (Ls d).length - 1) (bump m d (cntD G (Ls d))) (by omega) (by omega) (by rw [bump_len]; exact hm) h3
    exact ⟨a1.trans ih.1, a2.trans ih.2⟩
theorem count_is (w : List Int) (hw : w.length < 2000000) (k : Nat) (hk : 2 * w.length + 3000 < k) (r : List Int × Bool) (hr : r = if okW w = true then (counts (cG w) 4 0 (List.replicate 4 0), true) else (List.replicate 4 0, false)) :
    spec_CountCoefficients.f k w = some r ∧ impl_CountCoefficients.f k w = some r := by
  rw [spec_CountCoefficients.f, impl_CountCoefficients.f, isWord_f w k (by omega) (by omega), l2Word_f w k (by omega) (by omega), Option.bind_some, Option.bind_some, hr]
  by_cases h : okW w = true
  · obtain ⟨h1, s, h2, h3⟩ := coefsOk w h k (by omega)
    rw [if_pos h, if_pos h, if_pos h, h1, h2, Option.bind_some, Option.bind_some]
    exact count_l0 _ (cG_fine w) s h3 4 0 k _ (by omega) (by omega) rfl (fun i _ hi => by
      rw [List.getD_eq_getElem?_getD, List.getElem?_replicate, if_pos hi]; rfl)
  · rw [if_neg h, if_neg h, if_neg h]; exact ⟨rfl, rfl⟩
theorem bump_small (m : List Int) (d c : Nat) (hd : d < 4) (hc : c ≤ 216) (h : Small m) (hz : m.getD d 0 = 0) : Small (bump m d c) := by
  refine ⟨by rw [bump_len]; exact h.1, fun i hi => ?_⟩
  have h1 := h.1
  unfold bump
  rw [getD_set _ _ _ _ (by omega)]
  split
  · omega
  · exact h.2 i hi
theorem counts_len (G : List Int → Int) : ∀ (n d : Nat) (m : List Int), (counts G n d m).length = m.length
  | 0, _, _ => rfl
  | n + 1, d, m => by rw [counts, counts_len G n, bump_len]
end Go.Proofs.Ytblhjcdfccggfaa.Q
