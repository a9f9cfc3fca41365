/- Coefficients of a word: what the program's table holds. Conditions stand in each theorem. -/
import Derived.Test.YtblhjcdfccggfaaCF
namespace Go.Proofs.Ytblhjcdfccggfaa.Q
open Go.RowKit Go.Proofs.YtblhjcdfccggfaaW.PrintWords Go.Proofs.YtblhjcdfccggfaaW.PrintLast Go.Proofs.YtblhjcdfccggfaaW.PrintMore Go.Proofs.YtblhjcdfccggfaaM Go.Proofs.Ytblhjcdfccggfaa.K Go.Proofs.Ytblhjcdfccggfaa.KL
set_option linter.unusedVariables false
set_option linter.unusedSimpArgs false
def Ls : Nat → List (List Int)
  | 0 => [[]]
  | 1 => (List.range 6).map fun a => [va a]
  | 2 => (List.range 6).flatMap fun a => (List.range 6).map fun b => [va a, va b]
  | _ => (List.range 6).flatMap fun a => (List.range 6).flatMap fun b => (List.range 6).map fun c => [va a, va b, va c]
theorem lists_up (d : Int) (r : List (List Int)) (h : impl_lists.f 400 d = some r) : ∀ j, impl_lists.f (400 + j) d = some r
  | 0 => h
  | j + 1 => impl_lists.mono d (400 + j) r (lists_up d r h j)
theorem lists0 : impl_lists.f 400 0 = some (Ls 0) := by kernel_rfl
theorem lists1 : impl_lists.f 400 1 = some (Ls 1) := by kernel_rfl
theorem lists2 : impl_lists.f 400 2 = some (Ls 2) := by kernel_rfl
theorem lists3 : impl_lists.f 400 3 = some (Ls 3) := by kernel_rfl
theorem lists_is (k : Nat) (hk : 400 ≤ k) : impl_lists.f k 0 = some (Ls 0) ∧ impl_lists.f k 1 = some (Ls 1) ∧ impl_lists.f k 2 = some (Ls 2) ∧ impl_lists.f k 3 = some (Ls 3) := by
  obtain ⟨j, rfl⟩ := Nat.exists_eq_add_of_le hk
  exact ⟨lists_up _ _ lists0 j, lists_up _ _ lists1 j, lists_up _ _ lists2 j, lists_up _ _ lists3 j⟩
/-- the table of G -/
def tab (G : List Int → Int) : List (List Int) := [(Ls 0).map G, (Ls 1).map G, (Ls 2).map G, (Ls 3).map G]
theorem Ls1_at : ∀ a, a < 6 → (Ls 1)[a]? = some [va a] := by decide +kernel
theorem Ls2_at : ∀ a, a < 6 → ∀ b, b < 6 → (Ls 2)[6 * a + b]? = some [va a, va b] := by decide +kernel
theorem Ls3_at : ∀ a, a < 6 → ∀ b, b < 6 → ∀ c, c < 6 → (Ls 3)[36 * a + 6 * b + c]? = some [va a, va b, va c] := by decide +kernel
theorem Ls1_len : (Ls 1).length = 6 := by decide +kernel
theorem Ls2_len : (Ls 2).length = 36 := by decide +kernel
theorem Ls3_len : (Ls 3).length = 216 := by decide +kernel
theorem rd_map (L : List (List Int)) (G : List Int → Int) (i : Nat) (l : List Int) (h : L[i]? = some l) : rd (L.map G) (i : Int) = G l ∧ i < (L.map G).length := by
  obtain ⟨hi, he⟩ := List.getElem?_eq_some_iff.1 h
  rw [rd_nat _ _ (by simpa using hi)]
  exact ⟨by simp [he], by simpa using hi⟩
theorem index0 (k : Nat) (hk : 4 < k) : impl_index.f k [] = some 0 := by
  obtain ⟨k, rfl⟩ : ∃ q, k = q + 1 := ⟨k - 1, by omega⟩
  simp [impl_index.f, impl_index.l0]
theorem w1 : wrap64 (0 + 1) = 1 := by unfold wrap64; omega
theorem w2 : wrap64 (1 + 1) = 2 := by unfold wrap64; omega
theorem w3 : wrap64 (2 + 1) = 3 := by unfold wrap64; omega
theorem acc_w (i a : Nat) (hi : i < 1000) (ha : a < 6) : wrap64 (wrap64 (wrap64 ((i : Int) * 6) + va a) - 1) = ((6 * i + a : Nat) : Int) := by unfold wrap64 va; omega
theorem index1 (a : Nat) (ha : a < 6) (k : Nat) (hk : 4 < k) : impl_index.f k [va a] = some (a : Int) := by
  obtain ⟨k, rfl⟩ : ∃ q, k = q + 2 := ⟨k - 2, by omega⟩
  have h1 := acc_w 0 a (by omega) ha
  simp only [Int.natCast_zero] at h1
  simp only [Nat.mul_zero, Nat.zero_add] at h1
  simp only [impl_index.f, impl_index.l0, List.length_cons, List.length_nil]
  rw [if_pos (by omega), if_pos (by omega), if_pos (by omega), show rd [va a] 0 = va a from rfl, h1, w1, if_neg (by omega)]
theorem index2 (a b : Nat) (ha : a < 6) (hb : b < 6) (k : Nat) (hk : 4 < k) : impl_index.f k [va a, va b] = some ((6 * a + b : Nat) : Int) := by
  obtain ⟨k, rfl⟩ : ∃ q, k = q + 3 := ⟨k - 3, by omega⟩
  have h1 := acc_w 0 a (by omega) ha
  have h2 := acc_w a b (by omega) hb
  simp only [Int.natCast_zero] at h1
  simp only [Nat.mul_zero, Nat.zero_add] at h1
  simp only [impl_index.f, impl_index.l0, List.length_cons, List.length_nil]
  rw [if_pos (by omega), if_pos (by omega), if_pos (by omega), show rd [va a, va b] 0 = va a from rfl, h1, w1, if_pos (by omega), if_pos (by omega), if_pos (by omega), show rd [va a, va b] 1 = va b from rfl, h2, w2, if_neg (by omega)]
theorem index3 (a b c : Nat) (ha : a < 6) (hb : b < 6) (hc : c < 6) (k : Nat) (hk : 4 < k) : impl_index.f k [va a, va b, va c] = some ((36 * a + 6 * b + c : Nat) : Int) := by
  obtain ⟨k, rfl⟩ : ∃ q, k = q + 4 := ⟨k - 4, by omega⟩
  have h1 := acc_w 0 a (by omega) ha
  have h2 := acc_w a b (by omega) hb
  have h3 := acc_w (6 * a + b) c (by omega) hc
  simp only [Int.natCast_zero] at h1
  simp only [Nat.mul_zero, Nat.zero_add] at h1
  simp only [impl_index.f, impl_index.l0, List.length_cons, List.length_nil]
  rw [if_pos (by omega), if_pos (by omega), if_pos (by omega), show rd [va a, va b, va c] 0 = va a from rfl, h1, w1, if_pos (by omega), if_pos (by omega), if_pos (by omega), show rd [va a, va b, va c] 1 = va b from rfl, h2, w2, if_pos (by omega), if_pos (by omega), if_pos (by omega), show rd [va a, va b, va c] 2 = va c from rfl, h3, w3, if_neg (by omega)]
  congr 1
  omega
theorem of_of (G : List Int → Int) (k : Nat) (l : List Int) (d i : Nat) (hd : l.length = d) (hd4 : d < 4) (hi : impl_index.f k l = some (i : Int)) (hr : (tab G)[d]? = some ((Ls d).map G)) (hl : (Ls d)[i]? = some l) : impl_coefficients_of.f k (tab G) l = some (G l) := by
  obtain ⟨h1, h2⟩ := rd_map (Ls d) G i l hl
  have h3 : rdOf [] (tab G) (l.length : Int) = (Ls d).map G := by rw [hd]; simp [rdOf, hr]
  rw [impl_coefficients_of.f, if_pos (by omega), if_pos (by omega), hi, Option.bind_some, if_pos (by omega), h3, if_pos (by omega), h1]
theorem of0 (G : List Int → Int) (k : Nat) (hk : 4 < k) : impl_coefficients_of.f k (tab G) [] = some (G []) := of_of G k [] 0 0 rfl (by omega) (index0 k hk) rfl rfl
theorem of1 (G : List Int → Int) (a : Nat) (ha : a < 6) (k : Nat) (hk : 4 < k) : impl_coefficients_of.f k (tab G) [va a] = some (G [va a]) := of_of G k _ 1 a rfl (by omega) (index1 a ha k hk) rfl (Ls1_at a ha)
theorem of2 (G : List Int → Int) (a b : Nat) (ha : a < 6) (hb : b < 6) (k : Nat) (hk : 4 < k) : impl_coefficients_of.f k (tab G) [va a, va b] = some (G [va a, va b]) := of_of G k _ 2 _ rfl (by omega) (index2 a b ha hb k hk) rfl (Ls2_at a ha b hb)
theorem of3 (G : List Int → Int) (a b c : Nat) (ha : a < 6) (hb : b < 6) (hc : c < 6) (k : Nat) (hk : 4 < k) : impl_coefficients_of.f k (tab G) [va a, va b, va c] = some (G [va a, va b, va c]) := of_of G k _ 3 _ rfl (by omega) (index3 a b c ha hb hc k hk) rfl (Ls3_at a ha b hb c hc)
/-! the loop over k -/
section
variable (K : Nat) (C : List (List Int)) (x : Int) (hx : letB x = true) (l : List Int) (len : Nat)
theorem kl_end (q : Nat) (s kk sg : Int) (h : ¬ kk ≤ (len : Int)) : kloop K C x l (len : Int) (q + 1) s kk sg = some s := by rw [kloop, if_neg h]
include hx
theorem kl_ne (hl : l.length = len) (hl4 : len < 4) (q : Nat) (s sg : Int) (j : Nat) (hj : j < len) (hne : ¬ l.getD j 0 = va (nl x)) : kloop K C x l (len : Int) (q + 1) s ((len - j : Nat) : Int) sg = some s := by
  have e1 : wrap64 ((len : Int) - ((len - j : Nat) : Int)) = (j : Int) := by unfold wrap64; omega
  have e2 : rd l (j : Int) = l.getD j 0 := by unfold rd; simp
  rw [kloop, if_pos (by omega), e1, if_pos (by omega), if_pos (by omega), (nail_w x hx).2.1, Option.bind_some, e2, if_neg hne]
theorem kl_pos (hl : l.length = len) (hl4 : len < 4) (hx0 : ¬ x < 0) (q : Nat) (s v : Int) (j : Nat) (hj : j + 1 = len) (he : l.getD j 0 = va (nl x)) (hv : impl_coefficients_of.f K C (l.take j) = some v) : kloop K C x l (len : Int) (q + 2) s 1 1 = some (wrap64 (s + wrap64 (1 * v))) := by
  have hx2 := (letB_iff x).1 hx
  have e1 : wrap64 ((len : Int) - 1) = (j : Int) := by unfold wrap64; omega
  have e2 : rd l (j : Int) = l.getD j 0 := by unfold rd; simp
  rw [kloop, if_pos (by omega), e1, if_pos (by omega), if_pos (by omega), (nail_w x hx).2.1, Option.bind_some, e2, if_pos he, if_pos (by omega), if_neg (by omega), Int.toNat_natCast, hv, Option.bind_some, show wrap64 (1 + 1) = 2 from w2]
  by_cases h2 : len = 1
  · subst h2; exact kl_end K C x l 1 q _ _ _ (by omega)
  · have e3 : wrap64 ((len : Int) - 2) = ((len - 2 : Nat) : Int) := by unfold wrap64; omega
    rw [kloop, if_pos (by omega), e3, if_pos (by omega), if_pos (by omega), (nail_w x hx).2.1, Option.bind_some]
    split
    · rw [if_pos (by omega), if_pos (by omega)]
    · rfl
theorem kl_neg (hl : l.length = len) (hl4 : len < 4) (hx0 : x < 0) (q : Nat) (s v sg : Int) (j : Nat) (hj : j < len) (he : l.getD j 0 = va (nl x)) (hv : impl_coefficients_of.f K C (l.take j) = some v) : kloop K C x l (len : Int) (q + 1) s ((len - j : Nat) : Int) sg = kloop K C x l (len : Int) q (wrap64 (s + wrap64 (wrap64 (-sg) * v))) ((len - j + 1 : Nat) : Int) (wrap64 (-sg)) := by
  have e1 : wrap64 ((len : Int) - ((len - j : Nat) : Int)) = (j : Int) := by unfold wrap64; omega
  have e2 : rd l (j : Int) = l.getD j 0 := by unfold rd; simp
  rw [kloop, if_pos (by omega), e1, if_pos (by omega), if_pos (by omega), (nail_w x hx).2.1, Option.bind_some, e2, if_pos he, if_neg (by omega), if_pos hx0, Int.toNat_natCast, hv, Option.bind_some, w64 (len - j) (by omega)]
end
theorem wn1 : wrap64 (-1) = -1 := by unfold wrap64; omega
theorem wnn1 : wrap64 (- -1) = 1 := by unfold wrap64; omega
theorem fine1 {G : List Int → Int} (h : Fine G) (l : List Int) : wrap64 (1 * G l) = G l := by rw [Int.one_mul]; exact h.2 l
theorem sum0 (G : List Int → Int) (x : Int) (hx : letB x = true) (k : Nat) (hk : 10 < k) : sumOf k (tab G) x 0 [] = some (stepG x G []) := by
  obtain ⟨q, rfl⟩ : ∃ q, k = q + 1 := ⟨k - 1, by omega⟩
  rw [sumOf, of0 G (q + 1) (by omega), Option.bind_some]
  exact kl_end _ _ x [] 0 q _ _ _ (by omega)
theorem sum1 (G : List Int → Int) (hG : Fine G) (x : Int) (hx : letB x = true) (a : Nat) (ha : a < 6) (k : Nat) (hk : 10 < k) : sumOf k (tab G) x 1 [va a] = some (stepG x G [va a]) := by
  obtain ⟨q, rfl⟩ : ∃ q, k = q + 4 := ⟨k - 4, by omega⟩
  rw [sumOf, of1 G a ha _ (by omega), Option.bind_some]
  have h0 := of0 G (q + 4) (by omega)
  by_cases e : va a = va (nl x)
  · by_cases hx0 : x < 0
    · have h1 := kl_neg (q + 4) (tab G) x hx [va a] 1 rfl (by omega) hx0 (q + 3) (G [va a]) (G []) 1 0 (by omega) e h0
      have h2 := kl_end (q + 4) (tab G) x [va a] 1 (q + 2) (wrap64 (G [va a] + wrap64 (wrap64 (-1) * G []))) 2 (wrap64 (-1)) (by omega)
      refine h1.trans (h2.trans ?_)
      rw [hG.1, wn1]
      simp only [stepG]
      rw [if_pos e, sgn, if_pos hx0, Int.mul_one, wn1]
    · have h1 := kl_pos (q + 4) (tab G) x hx [va a] 1 rfl (by omega) hx0 (q + 2) (G [va a]) (G []) 0 (by omega) e h0
      refine h1.trans ?_
      rw [fine1 hG, hG.1]
      simp only [stepG]
      rw [if_pos e, sgn, if_neg hx0]
  · have h1 := kl_ne (q + 4) (tab G) x hx [va a] 1 rfl (by omega) (q + 3) (G [va a]) 1 0 (by omega) e
    refine h1.trans ?_
    simp only [stepG]
    rw [if_neg e]
theorem sum2 (G : List Int → Int) (hG : Fine G) (x : Int) (hx : letB x = true) (a b : Nat) (ha : a < 6) (hb : b < 6) (k : Nat) (hk : 10 < k) : sumOf k (tab G) x 2 [va a, va b] = some (stepG x G [va a, va b]) := by
  obtain ⟨q, rfl⟩ : ∃ q, k = q + 5 := ⟨k - 5, by omega⟩
  rw [sumOf, of2 G a b ha hb _ (by omega), Option.bind_some]
  have h0 := of0 G (q + 5) (by omega)
  have h1 := of1 G a ha (q + 5) (by omega)
  simp only [stepG]
  by_cases e : va b = va (nl x)
  · rw [if_pos e]
    by_cases hx0 : x < 0
    · have k1 := kl_neg (q + 5) (tab G) x hx [va a, va b] 2 rfl (by omega) hx0 (q + 4) (G [va a, va b]) (G [va a]) 1 1 (by omega) e h1
      rw [wn1] at k1
      refine k1.trans ?_
      rw [sgn, if_pos hx0]
      by_cases e2 : va a = va (nl x)
      · have k2 := kl_neg (q + 5) (tab G) x hx [va a, va b] 2 rfl (by omega) hx0 (q + 3) (wrap64 (G [va a, va b] + wrap64 (-1 * G [va a]))) (G []) (-1) 0 (by omega) e2 h0
        have k3 := kl_end (q + 5) (tab G) x [va a, va b] 2 (q + 2) (wrap64 (wrap64 (G [va a, va b] + wrap64 (-1 * G [va a])) + wrap64 (wrap64 (- -1) * G []))) 3 (wrap64 (- -1)) (by omega)
        refine k2.trans (k3.trans ?_)
        rw [if_pos ⟨hx0, e2⟩, wnn1, fine1 hG, hG.1]
      · have k2 := kl_ne (q + 5) (tab G) x hx [va a, va b] 2 rfl (by omega) (q + 3) (wrap64 (G [va a, va b] + wrap64 (-1 * G [va a]))) (-1) 0 (by omega) e2
        refine k2.trans ?_
        rw [if_neg (fun h => e2 h.2)]
    · have k1 := kl_pos (q + 5) (tab G) x hx [va a, va b] 2 rfl (by omega) hx0 (q + 3) (G [va a, va b]) (G [va a]) 1 (by omega) e h1
      refine k1.trans ?_
      rw [if_neg (fun h => hx0 h.1), sgn, if_neg hx0]
  · rw [if_neg e]
    exact kl_ne (q + 5) (tab G) x hx [va a, va b] 2 rfl (by omega) (q + 4) (G [va a, va b]) 1 1 (by omega) e
theorem sum3 (G : List Int → Int) (hG : Fine G) (x : Int) (hx : letB x = true) (a b c : Nat) (ha : a < 6) (hb : b < 6) (hc : c < 6) (k : Nat) (hk : 10 < k) : sumOf k (tab G) x 3 [va a, va b, va c] = some (stepG x G [va a, va b, va c]) := by
  obtain ⟨q, rfl⟩ : ∃ q, k = q + 6 := ⟨k - 6, by omega⟩
  rw [sumOf, of3 G a b c ha hb hc _ (by omega), Option.bind_some]
  have h0 := of0 G (q + 6) (by omega)
  have h1 := of1 G a ha (q + 6) (by omega)
  have h2 := of2 G a b ha hb (q + 6) (by omega)
  simp only [stepG]
  by_cases e : va c = va (nl x)
  · rw [if_pos e]
    by_cases hx0 : x < 0
    · have k1 := kl_neg (q + 6) (tab G) x hx [va a, va b, va c] 3 rfl (by omega) hx0 (q + 5) (G [va a, va b, va c]) (G [va a, va b]) 1 2 (by omega) e h2
      rw [wn1] at k1
      refine k1.trans ?_
      rw [sgn, if_pos hx0]
      generalize wrap64 (G [va a, va b, va c] + wrap64 (-1 * G [va a, va b])) = t
      by_cases e2 : va b = va (nl x)
      · rw [if_pos ⟨hx0, e2⟩]
        have k2 := kl_neg (q + 6) (tab G) x hx [va a, va b, va c] 3 rfl (by omega) hx0 (q + 4) t (G [va a]) (-1) 1 (by omega) e2 h1
        rw [wnn1, fine1 hG] at k2
        refine k2.trans ?_
        generalize wrap64 (t + G [va a]) = u
        by_cases e3 : va a = va (nl x)
        · have k3 := kl_neg (q + 6) (tab G) x hx [va a, va b, va c] 3 rfl (by omega) hx0 (q + 3) u (G []) 1 0 (by omega) e3 h0
          have k4 := kl_end (q + 6) (tab G) x [va a, va b, va c] 3 (q + 2) (wrap64 (u + wrap64 (wrap64 (-1) * G []))) 4 (wrap64 (-1)) (by omega)
          refine k3.trans (k4.trans ?_)
          rw [if_pos e3, hG.1, Int.mul_one, wn1, wn1]
          rfl
        · rw [if_neg e3]
          exact kl_ne (q + 6) (tab G) x hx [va a, va b, va c] 3 rfl (by omega) (q + 3) u 1 0 (by omega) e3
      · rw [if_neg (fun h => e2 h.2)]
        exact kl_ne (q + 6) (tab G) x hx [va a, va b, va c] 3 rfl (by omega) (q + 4) t (-1) 1 (by omega) e2
    · have k1 := kl_pos (q + 6) (tab G) x hx [va a, va b, va c] 3 rfl (by omega) hx0 (q + 4) (G [va a, va b, va c]) (G [va a, va b]) 2 (by omega) e h2
      refine k1.trans ?_
      rw [if_neg (fun h => hx0 h.1), sgn, if_neg hx0]
  · rw [if_neg e]
    exact kl_ne (q + 6) (tab G) x hx [va a, va b, va c] 3 rfl (by omega) (q + 5) (G [va a, va b, va c]) 1 2 (by omega) e
theorem row_map (k : Nat) (C : List (List Int)) (x len : Int) (F : List Int → Int) : ∀ (L : List (List Int)), (∀ l ∈ L, sumOf k C x len l = some (F l)) → rowOf k C x len L = some (L.map F)
  | [], _ => rfl
  | l :: t, h => by
    rw [rowOf, h l (by simp), Option.bind_some, row_map k C x len F t (fun l hl => h l (by simp [hl])), Option.bind_some]; rfl
theorem cstep_is (G : List Int → Int) (hG : Fine G) (x : Int) (hx : letB x = true) (k : Nat) (hk : 10 < k) : cstep k (Ls 0) (Ls 1) (Ls 2) (Ls 3) (tab G) x = some (tab (stepG x G)) := by
  have r0 := row_map k (tab G) x 0 (stepG x G) (Ls 0) (fun l hl => by
    obtain rfl : l = [] := by simpa [Ls] using hl
    exact sum0 G x hx k hk)
  have r1 := row_map k (tab G) x 1 (stepG x G) (Ls 1) (fun l hl => by
    simp only [Ls, List.mem_map, List.mem_range] at hl
    obtain ⟨a, ha, rfl⟩ := hl
    exact sum1 G hG x hx a ha k hk)
  have r2 := row_map k (tab G) x 2 (stepG x G) (Ls 2) (fun l hl => by
    simp only [Ls, List.mem_flatMap, List.mem_map, List.mem_range] at hl
    obtain ⟨a, ha, b, hb, rfl⟩ := hl
    exact sum2 G hG x hx a b ha hb k hk)
  have r3 := row_map k (tab G) x 3 (stepG x G) (Ls 3) (fun l hl => by
    simp only [Ls, List.mem_flatMap, List.mem_map, List.mem_range] at hl
    obtain ⟨a, ha, b, hb, c, hc, rfl⟩ := hl
    exact sum3 G hG x hx a b c ha hb hc k hk)
  rw [cstep, r0, Option.bind_some, r1, Option.bind_some, r2, Option.bind_some, r3, Option.bind_some]
  rfl
theorem cofl_is (k : Nat) (hk : 10 < k) : ∀ (w : List Int) (G : List Int → Int), Fine G → (∀ x ∈ w, letB x = true) → cofl k (Ls 0) (Ls 1) (Ls 2) (Ls 3) w (tab G) = some (tab (coefG w G))
  | [], G, _, _ => rfl
  | x :: t, G, hG, hl => by
    rw [cofl, cstep_is G hG x (hl x (by simp)) k hk, Option.bind_some, coefG]
    exact cofl_is k hk t (stepG x G) (fine_step hG x) (fun y hy => hl y (by simp [hy]))
theorem map_start1 : (Ls 1).map start = List.replicate (Ls 1).length 0 := by kernel_rfl
theorem map_start2 : (Ls 2).map start = List.replicate (Ls 2).length 0 := by kernel_rfl
theorem map_start3 : (Ls 3).map start = List.replicate (Ls 3).length 0 := by kernel_rfl
theorem coefs_is (w : List Int) (hl : ∀ x ∈ w, letB x = true) (k : Nat) (hk : 400 ≤ k) : impl_coefficientsOf.f k w = some (tab (coefG w start)) := by
  obtain ⟨h0, h1, h2, h3⟩ := lists_is k hk
  rw [impl_coefficientsOf.f, h0, Option.bind_some, h1, Option.bind_some, h2, Option.bind_some, h3, Option.bind_some, if_pos ⟨rfl, by rw [Ls1_len]; omega, by rw [Ls2_len]; omega, by rw [Ls3_len]; omega, by omega⟩, ← map_start1, ← map_start2, ← map_start3]
  exact cofl_is k (by omega) w start fine_start hl
end Go.Proofs.Ytblhjcdfccggfaa.Q
