/- CoefficientOf, PairSum and AreaOf: program and reference answer alike. Conditions stand in each theorem. -/
import Derived.Test.YtblhjcdfccggfaaCJ
import Derived.Test.YtblhjcdfccggfaaQE
import Derived.Test.YtblhjcdfccggfaaQW
import Derived.Test.YtblhjcdfccggfaaQF
import Derived.Test.YtblhjcdfccggfaaQP
import Derived.Test.YtblhjcdfccggfaaQT
namespace Go.Proofs.Ytblhjcdfccggfaa.Q
open Go.RowKit Go.Proofs.YtblhjcdfccggfaaW.PrintWords Go.Proofs.YtblhjcdfccggfaaW.PrintLast Go.Proofs.YtblhjcdfccggfaaW.PrintMore Go.Proofs.YtblhjcdfccggfaaM Go.Proofs.Ytblhjcdfccggfaa.K Go.Proofs.Ytblhjcdfccggfaa.KL
set_option linter.unusedVariables false
set_option linter.unusedSimpArgs false
theorem isNail_f (p : Int) : impl_isNail.f p = some (nailB p) := by
  unfold impl_isNail.f nailB
  by_cases h : p ≥ 1
  · rw [if_pos h]; congr 1; rw [Bool.eq_iff_iff]; simp; omega
  · rw [if_neg h]; congr 1; rw [Bool.eq_iff_iff]; simp; omega
theorem coefficient_is (w l : List Int) (hw : w.length < 2000000) (hl : l.length < 2000000) (k : Nat) (hk : 2 * w.length + l.length + 2000 < k) (r : Int × Bool) (hr : r = if okW w = true ∧ listB l = true then (cG w l, true) else (0, false)) :
    spec_CoefficientOf.f k w l = some r ∧ impl_CoefficientOf.f k w l = some r := by
  rw [spec_CoefficientOf.f, impl_CoefficientOf.f, isWord_f w k (by omega) (by omega), l2Word_f w k (by omega) (by omega), Option.bind_some, Option.bind_some, l8List_f l k (by omega), Option.bind_some]
  by_cases h : okW w = true
  · obtain ⟨h1, s, h2, h3⟩ := coefsOk w h k (by omega)
    rw [if_pos h, if_pos h, h1, h2]
    simp only [Option.bind_some]
    have hc : slices_ContainsFunc_int_int.f k l (fun x_ => impl_CoefficientOf_1.f x_) = some (l.any fun x => !nailB x) :=
      ContainsFunc_any l _ (fun x => !nailB x) (fun x _ => by show impl_CoefficientOf_1.f x = _; rw [impl_CoefficientOf_1.f, isNail_f]; rfl) k (by omega) (by omega)
    rw [hc, Option.bind_some]
    by_cases hb : listB l = true
    · obtain ⟨h4, h5⟩ := (listB_iff l).1 hb
      rw [if_pos ⟨h, hb⟩] at hr
      rw [if_pos hb, get_list _ (cG_fine w) s h3 l hb, if_neg (by omega), if_neg (by simp; exact fun x hx => h5 x hx), of_list _ l hb k (by omega), hr]
      exact ⟨rfl, rfl⟩
    · rw [if_neg (fun h => hb h.2)] at hr
      rw [if_neg hb, hr]
      refine ⟨rfl, ?_⟩
      by_cases h4 : (l.length : Int) > 3
      · rw [if_pos h4]
      · rw [if_neg h4, if_pos]
        by_cases ha : (l.any fun x => !nailB x) = true
        · exact ha
        · exact absurd ((listB_iff l).2 ⟨by omega, fun x hx => by
            by_cases hx2 : nailB x = true
            · exact hx2
            · exact absurd (List.any_eq_true.2 ⟨x, hx, by simp [hx2]⟩) ha⟩) hb
  · rw [if_neg (fun h2 => h h2.1)] at hr
    rw [if_neg h, if_neg h, hr]
    exact ⟨rfl, rfl⟩
def pairB (w : List Int) (a b : Int) : Bool := okW w && (nailB a && (nailB b && (a != b)))
theorem l8Pair_f (w : List Int) (a b : Int) (hw : w.length < 2000000) (k : Nat) (hk : 2 * w.length + 10 < k) : spec_l8Pair.f k w a b = some (pairB w a b) := by
  rw [pairB, spec_l8Pair.f, l2Word_f w k (by omega) (by omega), Option.bind_some, l1In_f, l1In_f, Option.bind_some, Option.bind_some]
  cases okW w <;> cases nailB a <;> cases nailB b <;> simp
theorem pair_at (s : List Int) (a b : Nat) (ha : a < 6) (hb : b < 6) (hs : s.length = 258) : rd ((((s.drop 6).take 36).drop (a * 6)).take 6) (b : Int) = s.getD (6 + a * 6 + b) 0 := by
  unfold rd
  rw [Int.toNat_natCast, List.getD_eq_getElem?_getD, List.getD_eq_getElem?_getD, List.getElem?_take_of_lt hb, List.getElem?_drop, List.getElem?_take_of_lt (by omega), List.getElem?_drop]
  congr 2
  omega
theorem pair_is (w : List Int) (a b : Int) (hw : w.length < 2000000) (k : Nat) (hk : 2 * w.length + 3000 < k) (r : Int × Bool) (hr : r = if pairB w a b = true then (cG w [a, b], true) else (0, false)) :
    spec_PairSum.f k w a b = some r ∧ impl_PairSum.f k w a b = some r := by
  have hc := (coefficient_is w [a, b] hw (by simp) k (by simp; omega) _ rfl).2
  have hi : impl_PairSum.f k w a b = some r := by
    rw [impl_PairSum.f, hr]
    by_cases hab : a = b
    · rw [if_pos hab, if_neg (by subst hab; simp [pairB])]
    · rw [if_neg hab, hc, Option.bind_some]
      have e : (okW w = true ∧ listB [a, b] = true) ↔ pairB w a b = true := by simp [pairB, listB, hab]
      by_cases h : pairB w a b = true
      · rw [if_pos (e.2 h), if_pos h]
      · rw [if_neg (fun h2 => h (e.1 h2)), if_neg h]
  refine ⟨?_, hi⟩
  rw [spec_PairSum.f, l8Pair_f w a b hw k (by omega), Option.bind_some, hr]
  by_cases h : pairB w a b = true
  · have h2 := h
    simp only [pairB, Bool.and_eq_true] at h2
    obtain ⟨h3, ha1, hb1, _⟩ := h2
    obtain ⟨_, s, h5, h6⟩ := coefsOk w h3 k (by omega)
    obtain ⟨a, ha, rfl⟩ := nail_va ha1
    obtain ⟨b, hb, rfl⟩ := nail_va hb1
    clear ha1 hb1
    rw [if_pos h, if_pos h, h5, Option.bind_some, va_w a ha, va_w b hb, if_pos (by omega), if_pos (by omega), if_pos (by omega), if_pos (by omega), Int.toNat_natCast, pair_at s a b ha hb h6.len, h6.g2 a b ha hb]
  · rw [if_neg h, if_neg h]
theorem pairB_comm (w : List Int) (a b : Int) : pairB w b a = pairB w a b := by
  unfold pairB
  have : (b != a) = (a != b) := by rw [Bool.eq_iff_iff]; simp; exact ⟨fun h e => h e.symm, fun h e => h e.symm⟩
  rw [this]
  cases okW w <;> cases nailB a <;> cases nailB b <;> rfl
theorem area_is (w : List Int) (a b : Int) (hw : w.length < 2000000) (k : Nat) (hk : 2 * w.length + 3000 < k) (r : Int × Bool) (hr : r = if pairB w a b = true then (wrap64 (cG w [a, b] - cG w [b, a]), true) else (0, false)) :
    spec_AreaOf.f k w a b = some r ∧ impl_AreaOf.f k w a b = some r := by
  have h1 := (pair_is w a b hw k hk _ rfl).2
  have h2 := (pair_is w b a hw k hk _ rfl).2
  rw [pairB_comm w a b] at h2
  rw [impl_AreaOf.f, h1, Option.bind_some, h2, Option.bind_some, spec_AreaOf.f, l8Pair_f w a b hw k (by omega), Option.bind_some, hr]
  by_cases h : pairB w a b = true
  · have h2 := h
    simp only [pairB, Bool.and_eq_true] at h2
    obtain ⟨h3, ha1, hb1, _⟩ := h2
    obtain ⟨_, s, h5, h6⟩ := coefsOk w h3 k (by omega)
    obtain ⟨a, ha, rfl⟩ := nail_va ha1
    obtain ⟨b, hb, rfl⟩ := nail_va hb1
    clear ha1 hb1
    rw [if_pos h, h5, Option.bind_some, va_w a ha, va_w b hb, if_pos (by omega), if_pos (by omega), if_pos (by omega), if_pos (by omega), Int.toNat_natCast, Int.toNat_natCast, h6.g2 a b ha hb, h6.g2 b a hb ha]
    simp only [h, if_true]
    exact ⟨trivial, trivial⟩
  · rw [if_neg h]
    have h' : pairB w a b = false := by simpa using h
    simp only [h', Bool.false_eq_true, if_false]
    exact ⟨trivial, by rw [show wrap64 (0 - 0) = 0 from by unfold wrap64; omega]⟩
end Go.Proofs.Ytblhjcdfccggfaa.Q
