/- Lists of nails, and their coefficients, as program and reference read them. Conditions stand in each theorem. -/
import Derived.Test.YtblhjcdfccggfaaCW
namespace Go.Proofs.Ytblhjcdfccggfaa.Q
open Go.RowKit Go.Proofs.YtblhjcdfccggfaaW.PrintWords Go.Proofs.YtblhjcdfccggfaaW.PrintLast Go.Proofs.YtblhjcdfccggfaaW.PrintMore Go.Proofs.YtblhjcdfccggfaaM Go.Proofs.Ytblhjcdfccggfaa.K Go.Proofs.Ytblhjcdfccggfaa.KL
set_option linter.unusedVariables false
set_option linter.unusedSimpArgs false
abbrev cG (w : List Int) : List Int → Int := coefG w start
theorem cG_fine (w : List Int) : Fine (cG w) := fine_coef w fine_start
def nailB (p : Int) : Bool := decide (1 ≤ p ∧ p ≤ 6)
theorem nailB_iff (p : Int) : nailB p = true ↔ 1 ≤ p ∧ p ≤ 6 := by simp [nailB]
theorem nail_va {p : Int} (h : nailB p = true) : ∃ a, a < 6 ∧ p = va a := by
  have := (nailB_iff p).1 h
  exact ⟨p.toNat - 1, by omega, by unfold va; omega⟩
theorem va_nail {a : Nat} (h : a < 6) : nailB (va a) = true := (nailB_iff _).2 (by unfold va; omega)
theorem l1In_f (p : Int) : spec_l1In.f p 1 6 = some (nailB p) := by
  unfold spec_l1In.f nailB
  by_cases h : p ≥ 1
  · rw [if_pos h]; congr 1; rw [Bool.eq_iff_iff]; simp; omega
  · rw [if_neg h]; congr 1; rw [Bool.eq_iff_iff]; simp; omega
def listB (l : List Int) : Bool := decide (l.length ≤ 3) && l.all nailB
theorem listB_iff (l : List Int) : listB l = true ↔ l.length ≤ 3 ∧ ∀ x ∈ l, nailB x = true := by simp [listB, List.all_eq_true]
/-- the four forms of a list -/
theorem list_cases {l : List Int} (h : listB l = true) : l = [] ∨ (∃ a, a < 6 ∧ l = [va a]) ∨ (∃ a b, a < 6 ∧ b < 6 ∧ l = [va a, va b]) ∨ ∃ a b c, a < 6 ∧ b < 6 ∧ c < 6 ∧ l = [va a, va b, va c] := by
  obtain ⟨h1, h2⟩ := (listB_iff l).1 h
  match l with
  | [] => exact .inl rfl
  | [p] =>
    obtain ⟨a, ha, rfl⟩ := nail_va (h2 p (by simp))
    exact .inr (.inl ⟨a, ha, rfl⟩)
  | [p, q] =>
    obtain ⟨a, ha, rfl⟩ := nail_va (h2 p (by simp))
    obtain ⟨b, hb, rfl⟩ := nail_va (h2 q (by simp))
    exact .inr (.inr (.inl ⟨a, b, ha, hb, rfl⟩))
  | [p, q, r] =>
    obtain ⟨a, ha, rfl⟩ := nail_va (h2 p (by simp))
    obtain ⟨b, hb, rfl⟩ := nail_va (h2 q (by simp))
    obtain ⟨c, hc, rfl⟩ := nail_va (h2 r (by simp))
    exact .inr (.inr (.inr ⟨a, b, c, ha, hb, hc, rfl⟩))
  | _ :: _ :: _ :: _ :: _ => simp at h1
theorem of_list (G : List Int → Int) (l : List Int) (h : listB l = true) (k : Nat) (hk : 4 < k) : impl_coefficients_of.f k (tab G) l = some (G l) := by
  rcases list_cases h with rfl | ⟨a, ha, rfl⟩ | ⟨a, b, ha, hb, rfl⟩ | ⟨a, b, c, ha, hb, hc, rfl⟩
  · exact of0 G k hk
  · exact of1 G a ha k hk
  · exact of2 G a b ha hb k hk
  · exact of3 G a b c ha hb hc k hk
theorem va_w (a : Nat) (h : a < 6) : wrap64 (va a - 1) = (a : Int) := by unfold wrap64 va; omega
theorem get_list (G : List Int → Int) (hG : Fine G) (s : List Int) (hs : RepG s G) (l : List Int) (h : listB l = true) : spec_l8Get.f s l = some (G l) := by
  rcases list_cases h with rfl | ⟨a, ha, rfl⟩ | ⟨a, b, ha, hb, rfl⟩ | ⟨a, b, c, ha, hb, hc, rfl⟩
  · rw [hG.1]; rfl
  · have e1 : rd [va a] 0 = va a := rfl
    simp only [spec_l8Get.f, List.length_cons, List.length_nil]
    rw [if_pos (by omega), if_pos (by omega), e1, va_w a ha, if_pos (by omega), if_pos (by omega), Int.toNat_natCast, hs.g1 a ha]
  · have e1 : rd [va a, va b] 0 = va a := rfl
    have e2 : rd [va a, va b] 1 = va b := rfl
    simp only [spec_l8Get.f, List.length_cons, List.length_nil]
    rw [if_neg (by omega), if_pos (by omega), if_pos (by omega), if_pos (by omega), e1, e2, va_w a ha, va_w b hb, if_pos (by omega), if_pos (by omega), if_pos (by omega), if_pos (by omega), Int.toNat_natCast, Int.toNat_natCast, hs.g2 a b ha hb]
  · have e1 : rd [va a, va b, va c] 0 = va a := rfl
    have e2 : rd [va a, va b, va c] 1 = va b := rfl
    have e3 : rd [va a, va b, va c] 2 = va c := rfl
    simp only [spec_l8Get.f, List.length_cons, List.length_nil]
    rw [if_neg (by omega), if_neg (by omega), if_pos (by omega), if_pos (by omega), if_pos (by omega), if_pos (by omega), e1, e2, e3, va_w a ha, va_w b hb, va_w c hc, if_pos (by omega), if_pos (by omega), if_pos (by omega), if_pos (by omega), if_pos (by omega), if_pos (by omega), Int.toNat_natCast, Int.toNat_natCast, Int.toNat_natCast, hs.g3 a b c ha hb hc]
theorem l8List_l0 (l : List Int) (hl : l.length ≤ 3) : ∀ (n k i : Nat), i + n = l.length → n < k → spec_l8List.l0 k l (i : Int) = some ((l.drop i).all nailB)
  | 0, k + 1, i, hi, _ => by
    rw [spec_l8List.l0, if_neg (by omega), List.drop_eq_nil_of_le (by omega)]; rfl
  | n + 1, k + 1, i, hi, hk => by
    have h : i < l.length := by omega
    rw [spec_l8List.l0, if_pos (by omega), if_pos (by omega), rd_nat _ _ h, l1In_f, Option.bind_some, w64 i (by omega), List.drop_eq_getElem_cons h]
    simp only [List.all_cons]
    by_cases hp : nailB l[i] = true
    · rw [if_pos hp, l8List_l0 l hl n k (i + 1) (by omega) (by omega), hp, Bool.true_and]
    · rw [if_neg hp]; simp [hp]
theorem l8List_f (l : List Int) (k : Nat) (hk : 10 < k) : spec_l8List.f k l = some (listB l) := by
  unfold spec_l8List.f listB
  by_cases h : (l.length : Int) > 3
  · rw [if_pos h, decide_eq_false (by omega)]; rfl
  · rw [if_neg h, decide_eq_true (by omega), Bool.true_and]
    exact l8List_l0 l (by omega) l.length k 0 (by omega) (by omega)
theorem coefsOk (w : List Int) (h : okW w = true) (k : Nat) (hk : 1000 < k) : impl_coefficientsOf.f k w = some (tab (cG w)) ∧ ∃ s, spec_l8Of.f k w = some s ∧ RepG s (cG w) := by
  obtain ⟨h64, hl⟩ := (okW_iff w).1 h
  exact ⟨coefs_is w hl k (by omega), l8Of_is w h64 hl k (by omega)⟩
/-! the first list -/
theorem l8lists_up (d : Int) (r : List (List Int)) (h : spec_l8Lists.f 400 d = some r) : ∀ j, spec_l8Lists.f (400 + j) d = some r
  | 0 => h
  | j + 1 => spec_l8Lists.mono d (400 + j) r (l8lists_up d r h j)
theorem l8lists0 : spec_l8Lists.f 400 0 = some (Ls 0) := by kernel_rfl
theorem l8lists1 : spec_l8Lists.f 400 1 = some (Ls 1) := by kernel_rfl
theorem l8lists2 : spec_l8Lists.f 400 2 = some (Ls 2) := by kernel_rfl
theorem l8lists3 : spec_l8Lists.f 400 3 = some (Ls 3) := by kernel_rfl
theorem l8Lists_is (d : Nat) (hd : d < 4) (k : Nat) (hk : 400 ≤ k) : spec_l8Lists.f k (d : Int) = some (Ls d) ∧ impl_lists.f k (d : Int) = some (Ls d) := by
  obtain ⟨j, rfl⟩ := Nat.exists_eq_add_of_le hk
  match d, hd with
  | 0, _ => exact ⟨l8lists_up _ _ l8lists0 j, lists_up _ _ lists0 j⟩
  | 1, _ => exact ⟨l8lists_up _ _ l8lists1 j, lists_up _ _ lists1 j⟩
  | 2, _ => exact ⟨l8lists_up _ _ l8lists2 j, lists_up _ _ lists2 j⟩
  | 3, _ => exact ⟨l8lists_up _ _ l8lists3 j, lists_up _ _ lists3 j⟩
theorem Ls_ok (d : Nat) (hd : d < 4) : ∀ l ∈ Ls d, listB l = true ∧ l.length = d := by
  match d, hd with
  | 0, _ => decide +kernel
  | 1, _ => decide +kernel
  | 2, _ => decide +kernel
  | 3, _ => decide +kernel
theorem Ls_len (d : Nat) (hd : d < 4) : (Ls d).length ≤ 216 := by
  match d, hd with
  | 0, _ => decide +kernel
  | 1, _ => decide +kernel
  | 2, _ => decide +kernel
  | 3, _ => decide +kernel
theorem rdOf_nat (L : List (List Int)) (i : Nat) (h : i < L.length) : rdOf [] L (i : Int) = L[i] := by simp [rdOf, h]
theorem tab_at (G : List Int → Int) (d : Nat) (hd : d < 4) : rdOf [] (tab G) (d : Int) = (Ls d).map G := by
  match d, hd with
  | 0, _ => rfl
  | 1, _ => rfl
  | 2, _ => rfl
  | 3, _ => rfl
end Go.Proofs.Ytblhjcdfccggfaa.Q
