/- Coefficients of a word: what the program and the reference compute is one function of lists of nails. Conditions stand in each theorem. -/
import Derived.Test.YtblhjcdfccggfaaCO
import Derived.Test.YtblhjcdfccggfaaQ8
import Derived.Test.YtblhjcdfccggfaaQ9
namespace Go.Proofs.Ytblhjcdfccggfaa.Q
open Go.RowKit Go.Proofs.YtblhjcdfccggfaaW.PrintWords Go.Proofs.YtblhjcdfccggfaaW.PrintLast Go.Proofs.YtblhjcdfccggfaaW.PrintMore Go.Proofs.YtblhjcdfccggfaaM Go.Proofs.Ytblhjcdfccggfaa.K Go.Proofs.Ytblhjcdfccggfaa.KL
set_option linter.unusedVariables false
set_option linter.unusedSimpArgs false
theorem w64 (i : Nat) (h : i < 9223372036854775807) : wrap64 ((i : Int) + 1) = ((i + 1 : Nat) : Int) := by
  unfold wrap64; omega
theorem rd_nat (l : List Int) (i : Nat) (h : i < l.length) : rd l (i : Int) = l[i] := by
  simp [rd, h]
theorem getD_set (m : List Int) (i j : Nat) (v : Int) (h : i < m.length) : (m.set i v).getD j 0 = if i = j then v else m.getD j 0 := by
  rw [List.getD_eq_getElem?_getD, List.getElem?_set]
  by_cases hij : i = j
  · rw [if_pos hij, if_pos hij, if_pos h]; rfl
  · rw [if_neg hij, if_neg hij, ← List.getD_eq_getElem?_getD]
theorem wrap_wrap (x : Int) : wrap64 (wrap64 x) = wrap64 x := by unfold wrap64; omega
def sgn (x : Int) : Int := if x < 0 then -1 else 1
def nl (x : Int) : Nat := x.natAbs - 1
def letB (x : Int) : Bool := decide (x ≠ 0 ∧ -6 ≤ x ∧ x ≤ 6)
theorem letB_iff (x : Int) : letB x = true ↔ x ≠ 0 ∧ -6 ≤ x ∧ x ≤ 6 := by simp [letB]
/-- the nails' numbers -/
def va (a : Nat) : Int := ((a + 1 : Nat) : Int)
theorem va_inj {a b : Nat} : va a = va b ↔ a = b := by unfold va; omega
/-- what a letter behind makes of the coefficients -/
def stepG (x : Int) (G : List Int → Int) : List Int → Int
  | [p] => if p = va (nl x) then wrap64 (G [p] + sgn x) else G [p]
  | [p, q] => if q = va (nl x) then (if x < 0 ∧ p = va (nl x) then wrap64 (wrap64 (G [p, q] + wrap64 (sgn x * G [p])) + 1) else wrap64 (G [p, q] + wrap64 (sgn x * G [p]))) else G [p, q]
  | [p, q, r] => if r = va (nl x) then (if x < 0 ∧ q = va (nl x) then (if p = va (nl x) then wrap64 (wrap64 (wrap64 (G [p, q, r] + wrap64 (sgn x * G [p, q])) + G [p]) - 1) else wrap64 (wrap64 (G [p, q, r] + wrap64 (sgn x * G [p, q])) + G [p])) else wrap64 (G [p, q, r] + wrap64 (sgn x * G [p, q]))) else G [p, q, r]
  | l => G l
def start (l : List Int) : Int := if l = [] then 1 else 0
/-- the coefficients of a word -/
def coefG : List Int → (List Int → Int) → (List Int → Int)
  | [], G => G
  | x :: t, G => coefG t (stepG x G)
/-- values of 64 bits, 1 at the empty list -/
def Fine (G : List Int → Int) : Prop := G [] = 1 ∧ ∀ l, wrap64 (G l) = G l
theorem fine_start : Fine start := ⟨rfl, fun l => by unfold start; split <;> (unfold wrap64; omega)⟩
theorem fine_step {G : List Int → Int} (h : Fine G) (x : Int) : Fine (stepG x G) := by
  refine ⟨h.1, fun l => ?_⟩
  unfold stepG
  split
  · split <;> first | exact wrap_wrap _ | exact h.2 _
  · split
    · split <;> exact wrap_wrap _
    · exact h.2 _
  · split
    · split
      · split <;> exact wrap_wrap _
      · exact wrap_wrap _
    · exact h.2 _
  · exact h.2 _
theorem fine_coef : ∀ (w : List Int) {G : List Int → Int}, Fine G → Fine (coefG w G)
  | [], G, h => h
  | x :: t, G, h => fine_coef t (fine_step h x)

/-! the reference's -/
structure Rep3 (s : List Int) (f1 : Nat → Int) (f2 : Nat → Nat → Int) (f3 : Nat → Nat → Nat → Int) : Prop where
  len : s.length = 258
  g1 : ∀ a, a < 6 → s.getD a 0 = f1 a
  g2 : ∀ a b, a < 6 → b < 6 → s.getD (6 + a * 6 + b) 0 = f2 a b
  g3 : ∀ a b c, a < 6 → b < 6 → c < 6 → s.getD (42 + a * 36 + b * 6 + c) 0 = f3 a b c
theorem Rep3.congr {s : List Int} {f1 g1 : Nat → Int} {f2 g2 : Nat → Nat → Int} {f3 g3 : Nat → Nat → Nat → Int} (h : Rep3 s f1 f2 f3) (h1 : ∀ a, a < 6 → f1 a = g1 a) (h2 : ∀ a b, a < 6 → b < 6 → f2 a b = g2 a b) (h3 : ∀ a b c, a < 6 → b < 6 → c < 6 → f3 a b c = g3 a b c) : Rep3 s g1 g2 g3 :=
  ⟨h.len, fun a ha => (h.g1 a ha).trans (h1 a ha), fun a b ha hb => (h.g2 a b ha hb).trans (h2 a b ha hb), fun a b c ha hb hc => (h.g3 a b c ha hb hc).trans (h3 a b c ha hb hc)⟩
theorem Rep3.set1 {s : List Int} {f1 f1' : Nat → Int} {f2 : Nat → Nat → Int} {f3 : Nat → Nat → Nat → Int} (h : Rep3 s f1 f2 f3) (i : Nat) (hi : i < 6) (v : Int) (hv : f1' i = v) (hs : ∀ a, a < 6 → a ≠ i → f1' a = f1 a) : Rep3 (s.set i v) f1' f2 f3 := by
  have hl := h.len
  refine ⟨by simpa using hl, fun a ha => ?_, fun a b ha hb => ?_, fun a b c ha hb hc => ?_⟩
  · rw [getD_set _ _ _ _ (by omega)]
    by_cases e : i = a
    · subst e; rw [if_pos rfl, hv]
    · rw [if_neg e, h.g1 a ha, hs a ha (fun e2 => e e2.symm)]
  · rw [getD_set _ _ _ _ (by omega), if_neg (by omega), h.g2 a b ha hb]
  · rw [getD_set _ _ _ _ (by omega), if_neg (by omega), h.g3 a b c ha hb hc]
theorem Rep3.set2 {s : List Int} {f1 : Nat → Int} {f2 f2' : Nat → Nat → Int} {f3 : Nat → Nat → Nat → Int} (h : Rep3 s f1 f2 f3) (i j : Nat) (hi : i < 6) (hj : j < 6) (v : Int) (hv : f2' i j = v) (hs : ∀ a b, a < 6 → b < 6 → ¬ (a = i ∧ b = j) → f2' a b = f2 a b) : Rep3 (s.set (6 + i * 6 + j) v) f1 f2' f3 := by
  have hl := h.len
  refine ⟨by simpa using hl, fun a ha => ?_, fun a b ha hb => ?_, fun a b c ha hb hc => ?_⟩
  · rw [getD_set _ _ _ _ (by omega), if_neg (by omega), h.g1 a ha]
  · rw [getD_set _ _ _ _ (by omega)]
    by_cases e : a = i ∧ b = j
    · obtain ⟨rfl, rfl⟩ := e; rw [if_pos rfl, hv]
    · rw [if_neg (by omega), h.g2 a b ha hb, hs a b ha hb e]
  · rw [getD_set _ _ _ _ (by omega), if_neg (by omega), h.g3 a b c ha hb hc]
theorem Rep3.set3 {s : List Int} {f1 : Nat → Int} {f2 : Nat → Nat → Int} {f3 f3' : Nat → Nat → Nat → Int} (h : Rep3 s f1 f2 f3) (i j l : Nat) (hi : i < 6) (hj : j < 6) (hk : l < 6) (v : Int) (hv : f3' i j l = v) (hs : ∀ a b c, a < 6 → b < 6 → c < 6 → ¬ (a = i ∧ b = j ∧ c = l) → f3' a b c = f3 a b c) : Rep3 (s.set (42 + i * 36 + j * 6 + l) v) f1 f2 f3' := by
  have hl := h.len
  refine ⟨by simpa using hl, fun a ha => ?_, fun a b ha hb => ?_, fun a b c ha hb hc => ?_⟩
  · rw [getD_set _ _ _ _ (by omega), if_neg (by omega), h.g1 a ha]
  · rw [getD_set _ _ _ _ (by omega), if_neg (by omega), h.g2 a b ha hb]
  · rw [getD_set _ _ _ _ (by omega)]
    by_cases e : a = i ∧ b = j ∧ c = l
    · obtain ⟨rfl, rfl, rfl⟩ := e; rw [if_pos rfl, hv]
    · rw [if_neg (by omega), h.g3 a b c ha hb hc, hs a b c ha hb hc e]
section
variable (n : Nat) (hn : n < 6) (x sg : Int) (m1 : List Int) (g1 : Nat → Int) (g2 : Nat → Nat → Int) (g3 : Nat → Nat → Nat → Int)
def T2 (a : Nat) : Int := wrap64 (g2 a n + wrap64 (sg * g1 a))
def T3 (a b : Nat) : Int := wrap64 (g3 a b n + wrap64 (sg * g2 a b))
def F2 (a : Nat) : Nat → Nat → Int := fun a' b' => if b' = n ∧ a' < a then T2 n sg g1 g2 a' else g2 a' b'
def F3 (a b : Nat) : Nat → Nat → Nat → Int := fun a' b' c' => if c' = n ∧ (a' < a ∨ (a' = a ∧ b' < b)) then T3 n sg g2 g3 a' b' else g3 a' b' c'
def E2 : Nat → Nat → Int := fun a' b' => if b' = n then (if x < 0 ∧ a' = n then wrap64 (T2 n sg g1 g2 a' + 1) else T2 n sg g1 g2 a') else g2 a' b'
def E3 : Nat → Nat → Nat → Int := fun a' b' c' => if c' = n then (if x < 0 ∧ b' = n then (if a' = n then wrap64 (wrap64 (T3 n sg g2 g3 a' b' + g1 a') - 1) else wrap64 (T3 n sg g2 g3 a' b' + g1 a')) else T3 n sg g2 g3 a' b') else g3 a' b' c'
def H3 (a : Nat) : Nat → Nat → Nat → Int := fun a' b' c' => if c' = n then (if b' = n ∧ a' < a then wrap64 (T3 n sg g2 g3 a' b' + g1 a') else T3 n sg g2 g3 a' b') else g3 a' b' c'
include hn
theorem behind_l2 (hx : x < 0) (f1 : Nat → Int) (h1 : Rep3 m1 g1 g2 g3) (d : Nat) : ∀ (k a : Nat) (m3 : List Int), a + d = 6 → d < k → Rep3 m3 f1 (E2 n x sg g1 g2) (H3 n sg g1 g2 g3 a) → ∃ r, spec_l8Behind.l2 k (n : Int) (a : Int) m3 m1 = some r ∧ Rep3 r f1 (E2 n x sg g1 g2) (E3 n x sg g1 g2 g3) := by
  induction d with
  | zero =>
    intro k a m3 ha hk h
    obtain ⟨k, rfl⟩ : ∃ q, k = q + 1 := ⟨k - 1, by omega⟩
    have ha6 : a = 6 := by omega
    subst ha6
    rw [spec_l8Behind.l2, if_neg (by omega), if_pos (by omega), if_pos (by omega)]
    simp only [Int.toNat_natCast]
    refine ⟨_, rfl, h.set3 n n n hn hn hn _ ?_ ?_⟩
    · rw [h.g3 n n n hn hn hn]
      simp [E3, H3, hx, hn]
    · intro a b c ha hb hc hne
      simp only [E3, H3]
      by_cases hcn : c = n
      · rw [if_pos hcn, if_pos hcn]
        by_cases hbn : b = n
        · rw [if_pos (show x < 0 ∧ b = n from ⟨hx, hbn⟩), if_pos (show b = n ∧ a < 6 from ⟨hbn, ha⟩), if_neg (show ¬ a = n from fun e => hne ⟨e, hbn, hcn⟩)]
        · rw [if_neg (show ¬ (x < 0 ∧ b = n) from fun h => hbn h.2), if_neg (show ¬ (b = n ∧ a < 6) from fun h => hbn h.1)]
      · rw [if_neg hcn, if_neg hcn]
  | succ d ih =>
    intro k a m3 ha hk h
    obtain ⟨k, rfl⟩ : ∃ q, k = q + 1 := ⟨k - 1, by omega⟩
    have ha6 : a < 6 := by omega
    rw [spec_l8Behind.l2, if_pos (by omega), if_pos (by omega), if_pos (by omega), if_pos (by omega), w64 a (by omega)]
    simp only [Int.toNat_natCast]
    refine ih k (a + 1) _ (by omega) (by omega) (h.set3 a n n ha6 hn hn _ ?_ ?_)
    · rw [h.g3 a n n ha6 hn hn, h1.g1 a ha6]
      simp [H3]
    · intro a' b' c' ha' hb' hc' hne
      simp only [H3]
      by_cases hcn : c' = n
      · rw [if_pos hcn, if_pos hcn]
        by_cases hbn : b' = n
        · have : (b' = n ∧ a' < a + 1) ↔ (b' = n ∧ a' < a) := by omega
          simp only [this]
        · rw [if_neg (fun h => hbn h.1), if_neg (fun h => hbn h.1)]
      · rw [if_neg hcn, if_neg hcn]
theorem behind_l01 (f1 : Nat → Int) (h1 : Rep3 m1 g1 g2 g3) (d : Nat) : ∀ (k a : Nat) (m3 : List Int), a + d = 6 → 20 * d + 20 < k → Rep3 m3 f1 (F2 n sg g1 g2 a) (F3 n sg g2 g3 a 0) → ∃ r, spec_l8Behind.l0 k x (n : Int) sg (a : Int) m3 m1 = some r ∧ Rep3 r f1 (E2 n x sg g1 g2) (E3 n x sg g1 g2 g3) := by
  induction d with
  | zero =>
    intro k a m3 ha hk h
    obtain ⟨k, rfl⟩ : ∃ q, k = q + 1 := ⟨k - 1, by omega⟩
    have ha6 : a = 6 := by omega
    subst ha6
    rw [spec_l8Behind.l0, if_neg (by omega)]
    by_cases hx : x < 0
    · rw [if_pos hx, if_pos (by omega), if_pos (by omega)]
      simp only [Int.toNat_natCast]
      refine behind_l2 n hn x sg m1 g1 g2 g3 hx f1 h1 6 k 0 _ (by omega) (by omega) ((h.set2 (f2' := E2 n x sg g1 g2) n n hn hn _ ?_ ?_).congr (fun _ _ => rfl) (fun _ _ _ _ => rfl) ?_)
      · rw [h.g2 n n hn hn]
        simp [E2, F2, hx, hn]
      · intro a b ha hb hne
        simp only [E2, F2]
        by_cases hbn : b = n
        · rw [if_pos hbn, if_neg (show ¬ (x < 0 ∧ a = n) from fun h => hne ⟨h.2, hbn⟩), if_pos (show b = n ∧ a < 6 from ⟨hbn, ha⟩)]
        · rw [if_neg hbn, if_neg (show ¬ (b = n ∧ a < 6) from fun h => hbn h.1)]
      · intro a b c ha hb hc
        simp only [F3, H3]
        by_cases hcn : c = n
        · rw [if_pos ⟨hcn, .inl ha⟩, if_pos hcn, if_neg (by omega)]
        · rw [if_neg (fun h => hcn h.1), if_neg hcn]
    · rw [if_neg hx]
      refine ⟨_, rfl, h.congr (fun _ _ => rfl) (fun a b ha hb => ?_) (fun a b c ha hb hc => ?_)⟩
      · simp only [E2, F2]
        by_cases hbn : b = n
        · rw [if_pos ⟨hbn, ha⟩, if_pos hbn, if_neg (fun h => hx h.1)]
        · rw [if_neg (fun h => hbn h.1), if_neg hbn]
      · simp only [E3, F3]
        by_cases hcn : c = n
        · rw [if_pos ⟨hcn, .inl ha⟩, if_pos hcn, if_neg (fun h => hx h.1)]
        · rw [if_neg (fun h => hcn h.1), if_neg hcn]
  | succ d ih =>
    have hl1 : ∀ (e k a b : Nat) (m3 : List Int), a + (d + 1) = 6 → b + e = 6 → 20 * d + 20 + e + 2 < k → Rep3 m3 f1 (F2 n sg g1 g2 (a + 1)) (F3 n sg g2 g3 a b) → ∃ r, spec_l8Behind.l1 k x (n : Int) sg (a : Int) (b : Int) m3 m1 = some r ∧ Rep3 r f1 (E2 n x sg g1 g2) (E3 n x sg g1 g2 g3) := by
      intro e
      induction e with
      | zero =>
        intro k a b m3 ha hb hk h
        obtain ⟨k, rfl⟩ : ∃ q, k = q + 1 := ⟨k - 1, by omega⟩
        rw [spec_l8Behind.l1, if_neg (by omega), w64 a (by omega)]
        refine ih k (a + 1) m3 (by omega) (by omega) (h.congr (fun _ _ => rfl) (fun _ _ _ _ => rfl) fun a' b' c' ha' hb' hc' => ?_)
        have : (c' = n ∧ (a' < a ∨ (a' = a ∧ b' < b))) ↔ (c' = n ∧ (a' < a + 1 ∨ (a' = a + 1 ∧ b' < 0))) := by omega
        simp only [F3, this]
      | succ e ihe =>
        intro k a b m3 ha hb hk h
        obtain ⟨k, rfl⟩ : ∃ q, k = q + 1 := ⟨k - 1, by omega⟩
        have ha6 : a < 6 := by omega
        have hb6 : b < 6 := by omega
        rw [spec_l8Behind.l1, if_pos (by omega), if_pos (by omega), if_pos (by omega), if_pos (by omega), if_pos (by omega), if_pos (by omega), w64 b (by omega)]
        simp only [Int.toNat_natCast]
        refine ihe k a (b + 1) _ ha (by omega) (by omega) (h.set3 a b n ha6 hb6 hn _ ?_ ?_)
        · rw [h1.g3 a b n ha6 hb6 hn, h1.g2 a b ha6 hb6]
          simp [F3, T3]
        · intro a' b' c' ha' hb' hc' hne
          have : (c' = n ∧ (a' < a ∨ (a' = a ∧ b' < b + 1))) ↔ (c' = n ∧ (a' < a ∨ (a' = a ∧ b' < b))) := by omega
          simp only [F3, this]
    intro k a m3 ha hk h
    obtain ⟨k, rfl⟩ : ∃ q, k = q + 1 := ⟨k - 1, by omega⟩
    have ha6 : a < 6 := by omega
    rw [spec_l8Behind.l0, if_pos (by omega), if_pos (by omega), if_pos (by omega), if_pos (by omega)]
    simp only [Int.toNat_natCast]
    refine hl1 6 k a 0 _ ha (by omega) (by omega) (h.set2 a n ha6 hn _ ?_ ?_)
    · rw [h1.g2 a n ha6 hn, h1.g1 a ha6]
      simp [F2, T2]
    · intro a' b' ha' hb' hne
      have : (b' = n ∧ a' < a + 1) ↔ (b' = n ∧ a' < a) := by omega
      simp only [F2, this]
end
/-- the reference's list of numbers is G's -/
def RepG (s : List Int) (G : List Int → Int) : Prop := Rep3 s (fun a => G [va a]) (fun a b => G [va a, va b]) (fun a b c => G [va a, va b, va c])
theorem nail_w (x : Int) (hx : letB x = true) : spec_l2Nail.f x = some (va (nl x)) ∧ Q.impl_nail.f x = some (va (nl x)) ∧ nl x < 6 := by
  rw [letB_iff] at hx
  have e : wrap64 (-x) = -x := by unfold wrap64; omega
  unfold spec_l2Nail.f spec_l1Most.f Q.impl_nail.f nl va mx
  rw [e]
  refine ⟨?_, ?_, by omega⟩
  · by_cases h : x > -x
    · rw [if_pos h, Option.bind_some]; congr 1; omega
    · rw [if_neg h, Option.bind_some]; congr 1; omega
  · congr 1; first | omega | (split <;> omega)
theorem behind_is (x : Int) (hx : letB x = true) (s : List Int) (G : List Int → Int) (h : RepG s G) (k : Nat) (hk : 200 < k) : ∃ r, spec_l8Behind.f k s x = some r ∧ RepG r (stepG x G) := by
  obtain ⟨h1, _, h6⟩ := nail_w x hx
  have e1 : wrap64 (va (nl x) - 1) = ((nl x : Nat) : Int) := by unfold wrap64 va; omega
  have hs : ∀ v, v = sgn x → ∃ r, spec_l8Behind.l0 k x ((nl x : Nat) : Int) v 0 (s.set ((nl x : Nat) : Int).toNat (wrap64 (s.getD ((nl x : Nat) : Int).toNat 0 + v))) s = some r ∧ RepG r (stepG x G) := by
    intro v hv
    subst hv
    simp only [Int.toNat_natCast]
    obtain ⟨r, hr, hR⟩ := behind_l01 (nl x) h6 x (sgn x) s _ _ _ (fun a => stepG x G [va a]) h 6 k 0 (s.set (nl x) (wrap64 (s.getD (nl x) 0 + sgn x))) (by omega) (by omega) (by
      refine (h.set1 (f1' := fun a => stepG x G [va a]) (nl x) h6 _ ?_ ?_).congr (fun _ _ => rfl) (fun a b ha hb => ?_) (fun a b c ha hb hc => ?_)
      · rw [h.g1 _ h6]; simp [stepG]
      · intro a ha hne
        simp only [stepG, va_inj]
        rw [if_neg hne]
      · simp only [F2]; rw [if_neg (by omega)]
      · simp only [F3]; rw [if_neg (by omega)])
    refine ⟨r, hr, hR.congr (fun _ _ => rfl) (fun a b ha hb => ?_) (fun a b c ha hb hc => ?_)⟩
    · simp only [E2, stepG, T2, va_inj]
      by_cases hb : b = nl x
      · subst hb; rfl
      · rw [if_neg hb, if_neg hb]
    · simp only [E3, stepG, T3, va_inj]
      by_cases hc : c = nl x
      · subst hc; rfl
      · rw [if_neg hc, if_neg hc]
  rw [spec_l8Behind.f, h1, Option.bind_some, e1]
  have c0 : (0 : Int) ≤ ((nl x : Nat) : Int) := Int.natCast_nonneg _
  have c6 : ((nl x : Nat) : Int) < 6 := by omega
  by_cases hx0 : x < 0
  · rw [if_pos hx0, if_pos c0, if_pos c6]; exact hs (-1) (by unfold sgn; rw [if_pos hx0])
  · rw [if_neg hx0, if_pos c0, if_pos c6]; exact hs 1 (by unfold sgn; rw [if_neg hx0])
theorem l8Of_l0 (w : List Int) (hw : w.length ≤ 64) (hl : ∀ x ∈ w, letB x = true) (d : Nat) : ∀ (k i : Nat) (s : List Int) (G : List Int → Int), i + d = w.length → d + 300 < k → RepG s G → ∃ r, spec_l8Of.l0 k w (i : Int) s = some r ∧ RepG r (coefG (w.drop i) G) := by
  induction d with
  | zero =>
    intro k i s G hi hk h
    obtain ⟨k, rfl⟩ : ∃ q, k = q + 1 := ⟨k - 1, by omega⟩
    rw [spec_l8Of.l0, if_neg (by omega), List.drop_eq_nil_of_le (by omega), coefG]
    exact ⟨_, rfl, h⟩
  | succ d ih =>
    intro k i s G hi hk h
    obtain ⟨k, rfl⟩ : ∃ q, k = q + 1 := ⟨k - 1, by omega⟩
    have hil : i < w.length := by omega
    obtain ⟨r, h1, h2⟩ := behind_is w[i] (hl _ (List.getElem_mem hil)) s G h k (by omega)
    rw [spec_l8Of.l0, if_pos (by omega), if_pos (by omega), rd_nat _ _ hil, h1, Option.bind_some, w64 i (by omega), List.drop_eq_getElem_cons hil, coefG]
    exact ih k (i + 1) r _ (by omega) (by omega) h2
theorem l8Of_is (w : List Int) (hw : w.length ≤ 64) (hl : ∀ x ∈ w, letB x = true) (k : Nat) (hk : 400 < k) : ∃ r, spec_l8Of.f k w = some r ∧ RepG r (coefG w start) := by
  refine l8Of_l0 w hw hl w.length k 0 _ start (by omega) (by omega) ⟨List.length_replicate, fun a ha => ?_, fun a b ha hb => ?_, fun a b c ha hb hc => ?_⟩
  all_goals (rw [List.getD_eq_getElem?_getD, List.getElem?_replicate, if_pos (by omega)]; rfl)
end Go.Proofs.Ytblhjcdfccggfaa.Q
