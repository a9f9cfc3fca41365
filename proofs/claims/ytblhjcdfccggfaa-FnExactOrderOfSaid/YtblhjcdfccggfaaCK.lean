/- OrderOf and FirstCoefficient: program and reference answer alike. Conditions stand in each theorem. -/
import Derived.Test.YtblhjcdfccggfaaCJ
import Derived.Test.YtblhjcdfccggfaaQB
import Derived.Test.YtblhjcdfccggfaaQO
import Derived.Test.YtblhjcdfccggfaaQR
namespace Go.Proofs.Ytblhjcdfccggfaa.Q
open Go.RowKit Go.Proofs.YtblhjcdfccggfaaW.PrintWords Go.Proofs.YtblhjcdfccggfaaW.PrintLast Go.Proofs.YtblhjcdfccggfaaW.PrintMore Go.Proofs.YtblhjcdfccggfaaM Go.Proofs.Ytblhjcdfccggfaa.K Go.Proofs.Ytblhjcdfccggfaa.KL
set_option linter.unusedVariables false
set_option linter.unusedSimpArgs false
/-- the first list of so many nails whose coefficient isn't 0 -/
def fst (G : List Int → Int) (L : List (List Int)) : Option (List Int) := L.find? fun l => G l != 0
theorem first_l0 (G : List Int → Int) (hG : Fine G) (s : List Int) (hs : RepG s G) (L : List (List Int)) (hL : ∀ l ∈ L, listB l = true) (hn : L.length ≤ 1000) : ∀ (n k i : Nat), i + n = L.length → n < k →
    spec_l8First.l0 k L (i : Int) s = some (match fst G (L.drop i) with | some l => (l, true) | none => ([], false))
  | 0, k + 1, i, hi, _ => by rw [spec_l8First.l0, if_neg (by omega), List.drop_eq_nil_of_le (by omega)]; rfl
  | n + 1, k + 1, i, hi, hk => by
    have h : i < L.length := by omega
    rw [spec_l8First.l0, if_pos (by omega), if_pos (by omega), rdOf_nat _ _ h, get_list G hG s hs _ (hL _ (List.getElem_mem h)), Option.bind_some, w64 i (by omega), List.drop_eq_getElem_cons h, fst, List.find?_cons]
    by_cases e : G L[i] = 0
    · rw [if_pos e, first_l0 G hG s hs L hL hn n k (i + 1) (by omega) (by omega), e]; rfl
    · rw [if_neg e]
      have : (G L[i] != 0) = true := by simpa using e
      rw [this]
theorem l8First_is (G : List Int → Int) (hG : Fine G) (s : List Int) (hs : RepG s G) (d : Nat) (hd : d < 4) (k : Nat) (hk : 400 ≤ k) : spec_l8First.f k s (d : Int) = some (match fst G (Ls d) with | some l => (l, true) | none => ([], false)) := by
  rw [spec_l8First.f, (l8Lists_is d hd k hk).1, Option.bind_some]
  have hl := Ls_len d hd
  exact first_l0 G hG s hs (Ls d) (fun l h => (Ls_ok d hd l h).1) (by omega) (Ls d).length k 0 (by omega) (by omega)
/-- .. of one, two or three nails -/
def fstFrom (G : List Int → Int) : Nat → Nat → Option (List Int)
  | 0, _ => none
  | n + 1, d => match fst G (Ls d) with
    | some l => some l
    | none => fstFrom G n (d + 1)
theorem fst_mem {G : List Int → Int} {d : Nat} {l : List Int} (h : fst G (Ls d) = some l) : l ∈ Ls d := List.mem_of_find?_eq_some h
theorem ifirst_l1 (G : List Int → Int) (d : Nat) (hd : d < 4) (d1 : 1 ≤ d) : ∀ (n k i : Nat), i + n = (Ls d).length → n + 10 < k →
    impl_coefficients_first.l1 k (tab G) (d : Int) (Ls d) ((Ls d).length : Int) (i : Int) = match fst G ((Ls d).drop i) with | some l => some l | none => impl_coefficients_first.l0 (k - n - 1) (tab G) ((d + 1 : Nat) : Int)
  | 0, k + 1, i, hi, _ => by
    rw [impl_coefficients_first.l1, if_neg (by omega), List.drop_eq_nil_of_le (by omega), w64 d (by omega)]
    show _ = impl_coefficients_first.l0 (k + 1 - 0 - 1) _ _
    rw [show k + 1 - 0 - 1 = k by omega]
  | n + 1, k + 1, i, hi, hk => by
    have h : i < (Ls d).length := by omega
    have hl := Ls_len d hd
    have ho := Ls_ok d hd _ (List.getElem_mem h)
    rw [impl_coefficients_first.l1, if_pos (by omega), if_pos (by omega), if_pos (by omega), rdOf_nat _ _ h, of_list G _ ho.1 k (by omega), Option.bind_some, w64 i (by omega), List.drop_eq_getElem_cons h, fst, List.find?_cons]
    by_cases e : G (Ls d)[i] = 0
    · rw [if_pos e, ifirst_l1 G d hd d1 n k (i + 1) (by omega) (by omega), e, show k + 1 - (n + 1) - 1 = k - n - 1 by omega]; rfl
    · rw [if_neg e, if_neg (by rw [ho.2]; omega)]
      have : (G (Ls d)[i] != 0) = true := by simpa using e
      rw [this]
theorem ifirst_l0 (G : List Int → Int) : ∀ (n d k : Nat), d + n = 4 → 1 ≤ d → 300 * n + 500 < k → impl_coefficients_first.l0 k (tab G) (d : Int) = some ((fstFrom G n d).getD [])
  | 0, d, k + 1, hd, _, _ => by rw [impl_coefficients_first.l0, if_neg (by omega)]; rfl
  | n + 1, d, k + 1, hd, h1, hk => by
    have hl := Ls_len d (by omega)
    rw [impl_coefficients_first.l0, if_pos (by omega), (l8Lists_is d (by omega) k (by omega)).2, Option.bind_some]
    have := ifirst_l1 G d (by omega) h1 (Ls d).length k 0 (by omega) (by omega)
    rw [show ((0 : Nat) : Int) = 0 from rfl] at this
    rw [this, List.drop_zero, fstFrom]
    cases fst G (Ls d) with
    | some l => rfl
    | none => exact ifirst_l0 G n (d + 1) _ (by omega) (by omega) (by omega)
theorem ifirst_is (G : List Int → Int) (k : Nat) (hk : 2000 < k) : impl_coefficients_first.f k (tab G) = some ((fstFrom G 3 1).getD []) := ifirst_l0 G 3 1 k (by omega) (by omega) (by omega)
theorem fstFrom_mem {G : List Int → Int} : ∀ (n d : Nat) {l : List Int}, fstFrom G n d = some l → ∃ e, d ≤ e ∧ e < d + n ∧ l ∈ Ls e
  | n + 1, d, l, h => by
    rw [fstFrom] at h
    split at h
    · rename_i l2 h2
      injection h with h
      subst h
      exact ⟨d, by omega, by omega, fst_mem h2⟩
    · obtain ⟨e, h1, h2, h3⟩ := fstFrom_mem n (d + 1) h
      exact ⟨e, by omega, by omega, h3⟩
theorem order_l0 (G : List Int → Int) (hG : Fine G) (s : List Int) (hs : RepG s G) : ∀ (n d k : Nat), d + n = 4 → 1 ≤ d → n + 500 < k → spec_OrderOf.l0 k (d : Int) s = some (match fstFrom G n d with | some l => ((l.length : Int), true) | none => (4, true))
  | 0, d, k + 1, hd, _, _ => by rw [spec_OrderOf.l0, if_neg (by omega)]; rfl
  | n + 1, d, k + 1, hd, h1, hk => by
    rw [spec_OrderOf.l0, if_pos (by omega), l8First_is G hG s hs d (by omega) k (by omega), Option.bind_some, fstFrom]
    cases h : fst G (Ls d) with
    | some l =>
      simp only [if_true]
      rw [(Ls_ok d (by omega) l (fst_mem h)).2]
    | none =>
      simp only [Bool.false_eq_true, if_false]
      rw [w64 d (by omega)]
      exact order_l0 G hG s hs n (d + 1) k (by omega) (by omega) (by omega)
theorem order_is (w : List Int) (hw : w.length < 2000000) (k : Nat) (hk : 2 * w.length + 3000 < k) (r : Int × Bool) (hr : r = if okW w = true then (if (w.foldl redR []).reverse.length = 0 then (0, true) else match fstFrom (cG w) 3 1 with | some l => ((l.length : Int), true) | none => (4, true)) else (0, false)) :
    spec_OrderOf.f k w = some r ∧ impl_OrderOf.f k w = some r := by
  rw [spec_OrderOf.f, impl_OrderOf.f, isWord_f w k (by omega) (by omega), l2Word_f w k (by omega) (by omega), Option.bind_some, Option.bind_some, hr]
  by_cases h : okW w = true
  · obtain ⟨h64, hl⟩ := (okW_iff w).1 h
    obtain ⟨h1, s, h2, h3⟩ := coefsOk w h k (by omega)
    rw [if_pos h, if_pos h, if_pos h, l2Reduce_f w hw hl k (by omega), reduced_f w hw hl k (by omega), Option.bind_some, Option.bind_some]
    by_cases h0 : (w.foldl redR []).reverse.length = 0
    · have h0i : ((w.foldl redR []).reverse.length : Int) = 0 := by omega
      rw [if_pos h0i, if_pos h0, if_pos h0i]; exact ⟨rfl, rfl⟩
    · have h0i : ¬ ((w.foldl redR []).reverse.length : Int) = 0 := by omega
      rw [if_neg h0i, if_neg h0, if_neg h0i, h1, h2, Option.bind_some, Option.bind_some, ifirst_is _ k (by omega), Option.bind_some]
      refine ⟨order_l0 _ (cG_fine w) s h3 3 1 k (by omega) (by omega) (by omega), ?_⟩
      cases hf : fstFrom (cG w) 3 1 with
      | none => rfl
      | some l =>
        obtain ⟨e, he1, he2, he3⟩ := fstFrom_mem 3 1 hf
        have hlen := (Ls_ok e (by omega) l he3).2
        show (if l.length = 0 then _ else _) = _
        rw [if_neg (by omega)]; rfl
  · rw [if_neg h, if_neg h, if_neg h]; exact ⟨rfl, rfl⟩
theorem firstc_l0 (G : List Int → Int) (hG : Fine G) (s : List Int) (hs : RepG s G) : ∀ (n d k : Nat), d + n = 4 → 1 ≤ d → n + 500 < k → spec_FirstCoefficient.l0 k (d : Int) s = some (match fstFrom G n d with | some l => (l, G l, true) | none => ([], 0, false))
  | 0, d, k + 1, hd, _, _ => by rw [spec_FirstCoefficient.l0, if_neg (by omega)]; rfl
  | n + 1, d, k + 1, hd, h1, hk => by
    rw [spec_FirstCoefficient.l0, if_pos (by omega), l8First_is G hG s hs d (by omega) k (by omega), Option.bind_some, fstFrom]
    cases h : fst G (Ls d) with
    | some l =>
      simp only [if_true]
      rw [get_list G hG s hs l (Ls_ok d (by omega) l (fst_mem h)).1]; rfl
    | none =>
      simp only [Bool.false_eq_true, if_false]
      rw [w64 d (by omega)]
      exact firstc_l0 G hG s hs n (d + 1) k (by omega) (by omega) (by omega)
theorem firstc_is (w : List Int) (hw : w.length < 2000000) (k : Nat) (hk : 2 * w.length + 3000 < k) (r : List Int × Int × Bool) (hr : r = if okW w = true then (match fstFrom (cG w) 3 1 with | some l => (l, cG w l, true) | none => ([], 0, false)) else ([], 0, false)) :
    spec_FirstCoefficient.f k w = some r ∧ impl_FirstCoefficient.f k w = some r := by
  rw [spec_FirstCoefficient.f, impl_FirstCoefficient.f, isWord_f w k (by omega) (by omega), l2Word_f w k (by omega) (by omega), Option.bind_some, Option.bind_some, hr]
  by_cases h : okW w = true
  · obtain ⟨h1, s, h2, h3⟩ := coefsOk w h k (by omega)
    rw [if_pos h, if_pos h, if_pos h, h1, h2, Option.bind_some, Option.bind_some, ifirst_is _ k (by omega), Option.bind_some]
    refine ⟨firstc_l0 _ (cG_fine w) s h3 3 1 k (by omega) (by omega) (by omega), ?_⟩
    cases hf : fstFrom (cG w) 3 1 with
    | none => rfl
    | some l =>
      obtain ⟨e, he1, he2, he3⟩ := fstFrom_mem 3 1 hf
      have hlen := Ls_ok e (by omega) l he3
      show (if l.length = 0 then _ else (impl_coefficients_of.f k (tab (cG w)) l).bind _) = _
      rw [if_neg (by omega), of_list _ l hlen.1 k (by omega)]; rfl
  · rw [if_neg h, if_neg h, if_neg h]; exact ⟨rfl, rfl⟩
end Go.Proofs.Ytblhjcdfccggfaa.Q
