/- Which games can be played, and what the program's and the reference's exported functions of games answer. Conditions stand in each theorem. -/
import Derived.Test.YtbnhnmcbaacdiaaGM
namespace Go.Proofs.Ytbnhnmcbaacdiaa.Q
open Go.RowKit Go.Proofs.YtbnhnmcbaacdiaaW.PrintWords Go.Proofs.YtbnhnmcbaacdiaaW.PrintLast Go.Proofs.YtbnhnmcbaacdiaaW.PrintMore Go.Proofs.YtbnhnmcbaacdiaaM Go.Proofs.Ytbnhnmcbaacdiaa.K
set_option linter.unusedVariables false
set_option linter.unusedSimpArgs false

def topI (n : Int) : Int := ((2 ^ n.toNat - 1 : Nat) : Int)
def gd (w : List Int) (n s : Int) : Bool := okW w && (decide (1 ≤ n ∧ n ≤ 6) && (decide (0 ≤ s ∧ s ≤ topI n) && (!fallB w s && fallB w (topI n))))
theorem top_all : ∀ n : Fin 7, 1 ≤ n.val → wrap64 ((shl .i64 1 ((n.val : Nat) : Int)) - 1) = topI ((n.val : Nat) : Int) ∧ topI ((n.val : Nat) : Int) = ((2 ^ n.val - 1 : Nat) : Int) ∧ 2 ^ n.val ≤ 64 ∧ 1 ≤ 2 ^ n.val := by decide +kernel
theorem isNail_g (n : Int) : impl_isNail.f n = some (decide (1 ≤ n ∧ n ≤ 6)) ∧ spec_l1In.f n 1 6 = some (decide (1 ≤ n ∧ n ≤ 6)) := by
  unfold impl_isNail.f spec_l1In.f
  by_cases h : n ≥ 1
  · rw [if_pos h]
    by_cases h2 : n ≤ 6
    · simp [h, h2]
    · simp [h, h2]
  · rw [if_neg h]
    have : ¬ (1 ≤ n ∧ n ≤ 6) := fun h3 => h h3.1
    simp [this]
theorem in_top (s t : Int) (h : 0 ≤ t) : spec_l1In.f s 0 t = some (decide (0 ≤ s ∧ s ≤ t)) := by
  unfold spec_l1In.f
  by_cases h : s ≥ 0
  · rw [if_pos h]
    by_cases h2 : s ≤ t
    · rw [decide_eq_true h2, decide_eq_true ⟨h, h2⟩]
    · rw [decide_eq_false h2, decide_eq_false (fun h3 => h2 h3.2)]
  · rw [if_neg h, decide_eq_false (fun h3 => h h3.1)]
theorem falls64 (w : List Int) (hw : okW w = true) (s : Int) (h0 : 0 ≤ s) (h1 : s < 64) (k : Nat) (hk : 130 < k) : spec_l3Falls.f k w s = some (fallB w s) := by
  have h := l3Falls_f w ⟨s.toNat, by omega⟩ hw k hk
  have e : ((s.toNat : Nat) : Int) = s := by omega
  simp only [e] at h
  exact h
theorem good_f (w : List Int) (n s : Int) (hw : w.length < 1000000000) (k : Nat) (hk : 2 * w.length + 300 < k) : spec_l9Good.f k w n s = some (gd w n s) := by
  rw [spec_l9Good.f, l2Word_f w k (by omega) (by omega), Option.bind_some]
  unfold gd
  cases hok : okW w with
  | false => rw [if_neg Bool.false_ne_true]; rfl
  | true =>
    rw [if_pos rfl, (isNail_g n).2, Option.bind_some]
    by_cases hn : 1 ≤ n ∧ n ≤ 6
    · obtain ⟨n, rfl⟩ := Int.eq_ofNat_of_zero_le (show 0 ≤ n by omega)
      obtain ⟨t1, t2, t3, t4⟩ := top_all ⟨n, by omega⟩ (by simp only; omega)
      simp only at t1 t2 t3
      have ht0 : 0 ≤ topI ((n : Nat) : Int) := by rw [t2]; exact Int.natCast_nonneg _
      have ht1 : topI ((n : Nat) : Int) < 64 := by rw [t2]; omega
      rw [decide_eq_true hn, if_pos rfl, if_pos (by omega), t1, in_top s _ ht0, Option.bind_some]
      by_cases hs : 0 ≤ s ∧ s ≤ topI ((n : Nat) : Int)
      · rw [decide_eq_true hs, if_pos rfl, falls64 w hok s hs.1 (by omega) k (by omega), Option.bind_some]
        cases hf : fallB w s with
        | true => rw [if_pos rfl]; rfl
        | false => rw [if_neg Bool.false_ne_true, falls64 w hok _ ht0 ht1 k (by omega), Option.bind_some]; simp
      · rw [decide_eq_false hs, if_neg Bool.false_ne_true]; rfl
    · rw [decide_eq_false hn, if_neg Bool.false_ne_true]; rfl
theorem gameAt_f (w : List Int) (n s : Int) (hw : w.length < 1000000000) (k : Nat) (hk : 2 * w.length + 300 < k) : ∃ nn n' T', impl_gameAt.f k w n s = some (nn, n', T', gd w n s) ∧ (gd w n s = true → nn = true ∧ n' = n ∧ T' = tb (fallB w)) := by
  rw [impl_gameAt.f, impl_gameOf.f, isWord_f w k (by omega) (by omega), Option.bind_some]
  unfold gd
  cases hok : okW w with
  | false =>
    rw [if_neg Bool.false_ne_true, Option.bind_some, if_neg Bool.false_ne_true, if_neg Bool.false_ne_true]
    exact ⟨_, _, _, rfl, fun h => by cases h⟩
  | true =>
    rw [if_pos rfl, (isNail_g n).1, Option.bind_some]
    by_cases hn : 1 ≤ n ∧ n ≤ 6
    · obtain ⟨n, rfl⟩ := Int.eq_ofNat_of_zero_le (show 0 ≤ n by omega)
      obtain ⟨t1, t2, t3, t4⟩ := top_all ⟨n, by omega⟩ (by simp only; omega)
      simp only at t1 t2 t3
      have ht0 : 0 ≤ topI ((n : Nat) : Int) := by rw [t2]; exact Int.natCast_nonneg _
      have ht1 : topI ((n : Nat) : Int) < 64 := by rw [t2]; omega
      have hall : ∀ l, impl_game_all.f ((n : Nat) : Int) l = some (topI ((n : Nat) : Int)) := fun l => by rw [impl_game_all.f, if_pos (by omega), t1]
      rw [decide_eq_true hn, if_pos rfl, fallTable_f w hok k (by omega), Option.bind_some, hall, Option.bind_some, if_pos ht0, if_pos ht1, Option.bind_some, if_pos rfl, tb_rd _ _ ht0 ht1]
      cases hf : fallB w (topI ((n : Nat) : Int)) with
      | false =>
        rw [if_neg Bool.false_ne_true]
        refine ⟨true, _, tb (fallB w), ?_, fun _ => ⟨rfl, rfl, rfl⟩⟩
        simp
      | true =>
        rw [if_pos rfl]
        by_cases h0 : s ≥ 0
        · rw [if_pos h0, hall, Option.bind_some]
          by_cases h2 : s ≤ topI ((n : Nat) : Int)
          · rw [if_pos h2, if_pos h0, if_pos (by omega), tb_rd _ _ h0 (by omega)]
            refine ⟨true, _, tb (fallB w), ?_, fun _ => ⟨rfl, rfl, rfl⟩⟩
            rw [decide_eq_true ⟨h0, h2⟩]; simp
          · rw [if_neg h2]
            refine ⟨true, _, tb (fallB w), ?_, fun _ => ⟨rfl, rfl, rfl⟩⟩
            rw [decide_eq_false (fun h3 => h2 h3.2)]; simp
        · rw [if_neg h0]
          refine ⟨true, _, tb (fallB w), ?_, fun _ => ⟨rfl, rfl, rfl⟩⟩
          rw [decide_eq_false (fun h3 => h0 h3.1)]; simp
    · rw [decide_eq_false hn, if_neg Bool.false_ne_true, Option.bind_some, if_neg Bool.false_ne_true, if_neg Bool.false_ne_true]
      exact ⟨_, _, _, rfl, fun h => by simp at h⟩
/-- a game that can be played, in natural numbers -/
theorem gd_nat (w : List Int) (n s : Int) (h : gd w n s = true) : ∃ n' s' : Nat, n = (n' : Int) ∧ s = (s' : Int) ∧ 1 ≤ n' ∧ n' ≤ 6 ∧ s' < 64 ∧ s' < 2 ^ n' ∧ okW w = true ∧ fallB w s = false ∧ fallB w ((2 ^ n' - 1 : Nat) : Int) = true := by
  simp only [gd, Bool.and_eq_true, decide_eq_true_eq, Bool.not_eq_true'] at h
  obtain ⟨h1, h2, h3, h4, h5⟩ := h
  obtain ⟨n, rfl⟩ := Int.eq_ofNat_of_zero_le (show 0 ≤ n by omega)
  obtain ⟨s, rfl⟩ := Int.eq_ofNat_of_zero_le h3.1
  obtain ⟨t1, t2, t3, t4⟩ := top_all ⟨n, by omega⟩ (by simp only; omega)
  simp only at t2 t3 t4
  rw [t2] at h3 h5
  exact ⟨n, s, rfl, rfl, by omega, by omega, by omega, by omega, h1, h4, h5⟩
/-- an exported function over a game: what is asked of a good one -/
theorem over {α : Type} (w : List Int) (n s : Int) (hw : w.length < 1000000000) (k : Nat) (hk : 2 * w.length + 300 < k) (X : Int → List Bool → Option α) (Y : α) :
    ((impl_gameAt.f k w n s).bind fun b => if b.1 = true then (if b.2.2.2 = true then X b.2.1 b.2.2.1 else some Y) else (if b.2.2.2 = true then none else some Y)) = if gd w n s = true then X n (tb (fallB w)) else some Y := by
  obtain ⟨nn, n', T', h1, h2⟩ := gameAt_f w n s hw k hk
  rw [h1, Option.bind_some]
  simp only
  cases hg : gd w n s with
  | true =>
    obtain ⟨rfl, rfl, rfl⟩ := h2 hg
    rfl
  | false => simp
/-! the lists of moves -/
theorem list_l0 (f : Nat → Nat → List Int → Option (List Int × Bool)) (l : List Int) (p : Int → Bool) (kb : Nat) (hl : l.length < 1000)
    (h0 : ∀ k i out, l.length ≤ i → f (k + 1) i out = some (out, true))
    (h1 : ∀ k i out (hi : i < l.length), kb < k → out.length < 1000 → f (k + 1) i out = f k (i + 1) (if p l[i] = true then out ++ [l[i]] else out)) (d : Nat) :
    ∀ (k i : Nat) (out : List Int), i + d = l.length → kb + d + 2 < k → out.length + d < 1000 → f k i out = some (out ++ (l.drop i).filter p, true) := by
  induction d with
  | zero =>
    intro k i out hi hk ho
    obtain ⟨k, rfl⟩ : ∃ m, k = m + 1 := ⟨k - 1, by omega⟩
    rw [h0 k i out (by omega), List.drop_eq_nil_of_le (by omega), List.filter_nil, List.append_nil]
  | succ d ih =>
    intro k i out hi hk ho
    obtain ⟨k, rfl⟩ : ∃ m, k = m + 1 := ⟨k - 1, by omega⟩
    have hil : i < l.length := by omega
    have hd : l.drop i = l[i] :: l.drop (i + 1) := List.drop_eq_getElem_cons hil
    have a1 : i + 1 + d = l.length := by omega
    have a2 : kb + d + 2 < k := by omega
    have a3 : (if p l[i] = true then out ++ [l[i]] else out).length + d < 1000 := by
      by_cases hp : p l[i] = true
      · rw [if_pos hp, List.length_append, List.length_singleton]; omega
      · rw [if_neg hp]; omega
    rw [h1 k i out hil (by omega) (by omega), ih k (i + 1) _ a1 a2 a3, hd, List.filter_cons]
    by_cases hp : p l[i] = true
    · rw [if_pos hp, if_pos hp, List.append_assoc]; rfl
    · rw [if_neg hp, if_neg hp]
theorem spec_drops_l0 (T : Int → Bool) (n s : Nat) (hn : n ≤ 6) (hs : s < 64) (k : Nat) (hk : 400 < k) :
    spec_DropMoves.l0 k ((n : Nat) : Int) ((s : Nat) : Int) 0 (tb T) (mv n s) [] = some ((mv n s).filter (dropP T n 5 s), true) := by
  have hlen := mv_len n s
  refine list_l0 (fun k i out => spec_DropMoves.l0 k ((n : Nat) : Int) ((s : Nat) : Int) ((i : Nat) : Int) (tb T) (mv n s) out) (mv n s) (dropP T n 5 s) 200 (by omega) ?_ ?_ (mv n s).length k 0 [] (by omega) (by omega) (by simp; omega)
  · intro k i out hi
    try simp only
    rw [spec_DropMoves.l0, if_neg (by omega)]
  · intro k i out hi hk ho
    try simp only
    have hx : (mv n s)[i] ∈ mv n s := List.getElem_mem hi
    have a1 : ((i : Nat) : Int) < ((mv n s).length : Int) := by omega
    have a2 : (0 : Int) ≤ ((i : Nat) : Int) := by omega
    have ei := wsucc i (by omega)
    have ho2 : out.length < 17592186044416 := by omega
    have hin := mv_in n s hn hs _ hx
    have e0 : (0 : Int) ≤ ((nxN s (mv n s)[i] : Nat) : Int) := Int.natCast_nonneg _
    have e1 : ((nxN s (mv n s)[i] : Nat) : Int) < 64 := Int.ofNat_lt.2 hin.lt
    have hd := l9Drop_f T n hn 5 (nxN s (mv n s)[i]) k hin.lt (by have := hin.less; omega) (by omega)
    rw [spec_DropMoves.l0, if_pos a1, if_pos a2, rd_nat _ _ hi, hin.out, Option.bind_some, if_pos e0, if_pos e1, rd_T T _ hin.lt, hd, ei]
    unfold dropP
    cases hT : T ((nxN s (mv n s)[i] : Nat) : Int) <;> cases hD : dropM T n 5 (nxN s (mv n s)[i]) <;> simp [ho2]
theorem spec_safe_l0 (w : List Int) (hok : okW w = true) (n s : Nat) (hn : n ≤ 6) (hs : s < 64) (k : Nat) (hk : 400 < k) :
    spec_SafeNails.l0 k w ((s : Nat) : Int) 0 (mv n s) [] = some ((mv n s).filter (fun x => !fallB w ((nxN s x : Nat) : Int)), true) := by
  have hlen := mv_len n s
  refine list_l0 (fun k i out => spec_SafeNails.l0 k w ((s : Nat) : Int) ((i : Nat) : Int) (mv n s) out) (mv n s) (fun x => !fallB w ((nxN s x : Nat) : Int)) 200 (by omega) ?_ ?_ (mv n s).length k 0 [] (by omega) (by omega) (by simp; omega)
  · intro k i out hi
    try simp only
    rw [spec_SafeNails.l0, if_neg (by omega)]
  · intro k i out hi hk ho
    try simp only
    have hx : (mv n s)[i] ∈ mv n s := List.getElem_mem hi
    have a1 : ((i : Nat) : Int) < ((mv n s).length : Int) := by omega
    have a2 : (0 : Int) ≤ ((i : Nat) : Int) := by omega
    have ei := wsucc i (by omega)
    have ho2 : out.length < 17592186044416 := by omega
    have hin := mv_in n s hn hs _ hx
    have hf := falls64 w hok ((nxN s (mv n s)[i] : Nat) : Int) (Int.natCast_nonneg _) (Int.ofNat_lt.2 hin.lt) k (by omega)
    rw [spec_SafeNails.l0, if_pos a1, if_pos a2, rd_nat _ _ hi, hin.out, Option.bind_some, hf, Option.bind_some, ei]
    cases hT : fallB w ((nxN s (mv n s)[i] : Nat) : Int) <;> simp [ho2]
/-! the answers -/
theorem drops_is (w : List Int) (n s : Int) (hw : w.length < 1000000000) (k : Nat) (hk : 2 * w.length + 500 < k) (r : List Int × Bool)
    (hr : r = if gd w n s = true then ((mv n.toNat s.toNat).filter (dropP (fallB w) n.toNat 5 s.toNat), true) else ([], false)) : impl_DropMoves.f k w n s = some r ∧ spec_DropMoves.f k w n s = some r := by
  have ho := over w n s hw k (by omega) (fun a b => (impl_game_drops.f k a b s).bind fun t => some (t, true)) ([], false)
  have hg2 := good_f w n s hw k (by omega)
  constructor
  · refine (show impl_DropMoves.f k w n s = _ from ho).trans ?_
    rw [hr]
    cases hg : gd w n s with
    | false => rfl
    | true =>
      obtain ⟨n, s, rfl, rfl, h1, h6, h64, h2n, hok, hf, htop⟩ := gd_nat w n s hg
      have := drops_f (fallB w) n h6 6 s k h64 (by have := mv_len n s; omega) (by omega)
      rw [if_pos rfl, if_pos rfl]
      simp only [Int.toNat_natCast]
      rw [this, Option.bind_some]
  · rw [spec_DropMoves.f, Option.bind_some, hg2, Option.bind_some, hr]
    cases hg : gd w n s with
    | false => rfl
    | true =>
      obtain ⟨n, s, rfl, rfl, h1, h6, h64, h2n, hok, hf, htop⟩ := gd_nat w n s hg
      rw [if_pos rfl, if_pos rfl, l3Table_f w hok k (by omega), Option.bind_some, moves_f n s h6 h64 k (by omega), Option.bind_some]
      exact spec_drops_l0 (fallB w) n s h6 h64 k (by omega)
theorem canDrop_is (w : List Int) (n s : Int) (hw : w.length < 1000000000) (k : Nat) (hk : 2 * w.length + 500 < k) (r : Bool × Bool)
    (hr : r = if gd w n s = true then (dropM (fallB w) n.toNat 6 s.toNat, true) else (false, false)) : impl_CanDrop.f k w n s = some r ∧ spec_CanDrop.f k w n s = some r := by
  have hd := (drops_is w n s hw k hk _ rfl).1
  have hg2 := good_f w n s hw k (by omega)
  constructor
  · rw [impl_CanDrop.f, hd, Option.bind_some, hr]
    cases hg : gd w n s with
    | false => rfl
    | true =>
      obtain ⟨n, s, rfl, rfl, h1, h6, h64, h2n, hok, hf, htop⟩ := gd_nat w n s hg
      rw [if_pos rfl, if_pos rfl]
      simp only [Int.toNat_natCast]
      rw [drop_any (fallB w) n 6 s (by have := mv_len n s; omega)]
  · rw [spec_CanDrop.f, hg2, Option.bind_some, hr]
    cases hg : gd w n s with
    | false => rfl
    | true =>
      obtain ⟨n, s, rfl, rfl, h1, h6, h64, h2n, hok, hf, htop⟩ := gd_nat w n s hg
      rw [if_pos rfl, if_pos rfl, l3Table_f w hok k (by omega), Option.bind_some, l9Drop_f (fallB w) n h6 6 s k h64 (by have := mv_len n s; omega) (by omega), Option.bind_some]
      rfl
theorem keeps_is (w : List Int) (n s : Int) (hw : w.length < 1000000000) (k : Nat) (hk : 2 * w.length + 500 < k) :
    impl_KeepMoves.f k w n s = some (if gd w n s = true then ((mv n.toNat s.toNat).filter (keepP (fallB w) n.toNat 5 s.toNat), true) else ([], false)) := by
  have ho := over w n s hw k (by omega) (fun a b => (impl_game_keeps.f k a b s).bind fun t => some (t, true)) ([], false)
  refine (show impl_KeepMoves.f k w n s = _ from ho).trans ?_
  cases hg : gd w n s with
  | false => rfl
  | true =>
    obtain ⟨n, s, rfl, rfl, h1, h6, h64, h2n, hok, hf, htop⟩ := gd_nat w n s hg
    have := keeps_f (fallB w) n h6 6 s k h64 (by have := mv_len n s; omega) (by omega)
    rw [if_pos rfl, if_pos rfl]
    simp only [Int.toNat_natCast]
    rw [this, Option.bind_some]
theorem canKeep_is (w : List Int) (n s : Int) (hw : w.length < 1000000000) (k : Nat) (hk : 2 * w.length + 500 < k) (r : Bool × Bool)
    (hr : r = if gd w n s = true then (keepM (fallB w) n.toNat 6 s.toNat, true) else (false, false)) : impl_CanKeep.f k w n s = some r ∧ spec_CanKeep.f k w n s = some r := by
  have hd := keeps_is w n s hw k hk
  have hg2 := good_f w n s hw k (by omega)
  constructor
  · rw [impl_CanKeep.f, hd, Option.bind_some, hr]
    cases hg : gd w n s with
    | false => rfl
    | true =>
      obtain ⟨n, s, rfl, rfl, h1, h6, h64, h2n, hok, hf, htop⟩ := gd_nat w n s hg
      rw [if_pos rfl, if_pos rfl]
      simp only [Int.toNat_natCast]
      rw [keep_any (fallB w) n 6 s (by have := mv_len n s; omega)]
  · rw [spec_CanKeep.f, hg2, Option.bind_some, hr]
    cases hg : gd w n s with
    | false => rfl
    | true =>
      obtain ⟨n, s, rfl, rfl, h1, h6, h64, h2n, hok, hf, htop⟩ := gd_nat w n s hg
      rw [if_pos rfl, if_pos rfl, l3Table_f w hok k (by omega), Option.bind_some, l9Keep_f (fallB w) n h6 6 s k h64 (by have := mv_len n s; omega) (by omega), Option.bind_some]
      rfl
theorem safe_is (w : List Int) (n s : Int) (hw : w.length < 1000000000) (k : Nat) (hk : 2 * w.length + 500 < k) (r : List Int × Bool)
    (hr : r = if gd w n s = true then ((mv n.toNat s.toNat).filter (fun x => !fallB w ((nxN s.toNat x : Nat) : Int)), true) else ([], false)) : impl_SafeNails.f k w n s = some r ∧ spec_SafeNails.f k w n s = some r := by
  have ho := over w n s hw k (by omega) (fun a b => (impl_game_safe.f k a b s).bind fun t => some (t, true)) ([], false)
  have hg2 := good_f w n s hw k (by omega)
  constructor
  · refine (show impl_SafeNails.f k w n s = _ from ho).trans ?_
    rw [hr]
    cases hg : gd w n s with
    | false => rfl
    | true =>
      obtain ⟨n, s, rfl, rfl, h1, h6, h64, h2n, hok, hf, htop⟩ := gd_nat w n s hg
      rw [if_pos rfl, if_pos rfl]
      simp only [Int.toNat_natCast]
      rw [impl_game_safe.f, that_f n s h6 h64 k (by omega) _ _ (fun x => !fallB w ((nxN s x : Nat) : Int)) (fun x hx => by
        have hin := mv_in n s h6 h64 x hx
        have e0 : (0 : Int) ≤ ((nxN s x : Nat) : Int) := Int.natCast_nonneg _
        have e1 : ((nxN s x : Nat) : Int) < 64 := Int.ofNat_lt.2 hin.lt
        rw [impl_game_safe_1.f, if_pos e0, if_pos e1, rd_T _ _ hin.lt]), Option.bind_some, Option.bind_some]
  · rw [spec_SafeNails.f, Option.bind_some, hg2, Option.bind_some, hr]
    cases hg : gd w n s with
    | false => rfl
    | true =>
      obtain ⟨n, s, rfl, rfl, h1, h6, h64, h2n, hok, hf, htop⟩ := gd_nat w n s hg
      rw [if_pos rfl, if_pos rfl, moves_f n s h6 h64 k (by omega), Option.bind_some]
      exact spec_safe_l0 w hok n s h6 h64 k (by omega)
theorem long_is (w : List Int) (n s : Int) (hw : w.length < 1000000000) (k : Nat) (hk : 2 * w.length + 500 < k) (r : Int × Bool)
    (hr : r = if gd w n s = true then (lenM (fallB w) n.toNat (cOf true) 6 s.toNat, true) else (0, false)) : impl_LongestGame.f k w n s = some r ∧ spec_LongestGame.f k w n s = some r := by
  have ho := over w n s hw k (by omega) (fun a b => (impl_game_length.f k a b s (fun x_ y_ => impl_LongestGame_1.f x_ y_)).bind fun t => some (t, true)) (0, false)
  have hg2 := good_f w n s hw k (by omega)
  constructor
  · refine (show impl_LongestGame.f k w n s = _ from ho).trans ?_
    rw [hr]
    cases hg : gd w n s with
    | false => rfl
    | true =>
      obtain ⟨n, s, rfl, rfl, h1, h6, h64, h2n, hok, hf, htop⟩ := gd_nat w n s hg
      have := length_f (fallB w) n h6 (cOf true) (cOf_chooses true) (fun x_ y_ => impl_LongestGame_1.f x_ y_) (fun a b => by rw [impl_LongestGame_1.f, mx_cOf]) 6 s k (by omega) h64 (by have := mv_len n s; omega) (by omega) hf
      rw [if_pos rfl, if_pos rfl]
      simp only [Int.toNat_natCast]
      rw [this, Option.bind_some]
  · rw [spec_LongestGame.f, hg2, Option.bind_some, hr]
    cases hg : gd w n s with
    | false => rfl
    | true =>
      obtain ⟨n, s, rfl, rfl, h1, h6, h64, h2n, hok, hf, htop⟩ := gd_nat w n s hg
      rw [if_pos rfl, if_pos rfl, l3Table_f w hok k (by omega), Option.bind_some, l9Length_f (fallB w) n h6 htop true 6 s k (by omega) h64 h2n (by have := mv_len n s; omega) (by omega), Option.bind_some]
      rfl
theorem short_is (w : List Int) (n s : Int) (hw : w.length < 1000000000) (k : Nat) (hk : 2 * w.length + 500 < k) (r : Int × Bool)
    (hr : r = if gd w n s = true then (lenM (fallB w) n.toNat (cOf false) 6 s.toNat, true) else (0, false)) : impl_ShortestGame.f k w n s = some r ∧ spec_ShortestGame.f k w n s = some r := by
  have ho := over w n s hw k (by omega) (fun a b => (impl_game_length.f k a b s (fun x_ y_ => impl_ShortestGame_1.f x_ y_)).bind fun t => some (t, true)) (0, false)
  have hg2 := good_f w n s hw k (by omega)
  constructor
  · refine (show impl_ShortestGame.f k w n s = _ from ho).trans ?_
    rw [hr]
    cases hg : gd w n s with
    | false => rfl
    | true =>
      obtain ⟨n, s, rfl, rfl, h1, h6, h64, h2n, hok, hf, htop⟩ := gd_nat w n s hg
      have := length_f (fallB w) n h6 (cOf false) (cOf_chooses false) (fun x_ y_ => impl_ShortestGame_1.f x_ y_) (fun a b => by rw [impl_ShortestGame_1.f, mn_cOf]) 6 s k (by omega) h64 (by have := mv_len n s; omega) (by omega) hf
      rw [if_pos rfl, if_pos rfl]
      simp only [Int.toNat_natCast]
      rw [this, Option.bind_some]
  · rw [spec_ShortestGame.f, hg2, Option.bind_some, hr]
    cases hg : gd w n s with
    | false => rfl
    | true =>
      obtain ⟨n, s, rfl, rfl, h1, h6, h64, h2n, hok, hf, htop⟩ := gd_nat w n s hg
      rw [if_pos rfl, if_pos rfl, l3Table_f w hok k (by omega), Option.bind_some, l9Length_f (fallB w) n h6 htop false 6 s k (by omega) h64 h2n (by have := mv_len n s; omega) (by omega), Option.bind_some]
      rfl
/-! taking out the nails of a list -/
def playM (T : Int → Bool) (n : Nat) : List Int → Nat → Nat → Int × Int × Bool
  | [], s, i => (((s : Nat) : Int), ((i : Nat) : Int), true)
  | x :: t, s, i => if 1 ≤ x ∧ x ≤ (n : Int) then (if s.testBit (x.toNat - 1) = true then (((s : Nat) : Int), ((i : Nat) : Int), true) else if T ((s : Nat) : Int) = true then (((s : Nat) : Int), ((i : Nat) : Int), true) else playM T n t (nxN s x) (i + 1)) else (((s : Nat) : Int), ((i : Nat) : Int), true)
theorem play_bits (n s : Nat) (hn : n ≤ 6) (hs : s < 64) (x : Int) (h1 : 1 ≤ x) (h2 : x ≤ (n : Int)) : spec_l3In.f ((s : Nat) : Int) x = some (s.testBit (x.toNat - 1)) ∧ spec_l9Out.f ((s : Nat) : Int) x = some ((nxN s x : Nat) : Int) ∧ nxN s x < 64 ∧
    ∃ b : Int, b ≠ 0 ∧ impl_nailBit.f x = some b ∧ Go.bits .or .i64 ((s : Nat) : Int) b = ((nxN s x : Nat) : Int) ∧ Go.bits .and .i64 ((s : Nat) : Int) b = if s.testBit (x.toNat - 1) then b else 0 := by
  obtain ⟨b1, b2, b3, b4, b5, b6, b7⟩ := g_bits ⟨s, hs⟩ ⟨x.toNat - 1, by omega⟩
  have e : ((x.toNat - 1 + 1 : Nat) : Int) = x := by omega
  simp only [e] at b1 b2 b3 b4 b5 b6 b7
  exact ⟨b5, b4, b6, _, b7, b1, b3, b2⟩
theorem w64m9 (i : Nat) (h : i < 9000000000) : wrap64 (((i : Nat) : Int) + 1) = ((i + 1 : Nat) : Int) := w64 i (by omega)
theorem spec_play_l0 (w : List Int) (hok : okW w = true) (n : Nat) (hn : n ≤ 6) (l : List Int) (hl : l.length < 1000000000) (d : Nat) : ∀ (k i s : Nat), i + d = l.length → d + 200 < k → s < 64 →
    spec_PlayNails.l0 k w ((n : Nat) : Int) ((s : Nat) : Int) l ((i : Nat) : Int) = some (playM (fallB w) n (l.drop i) s i) := by
  induction d with
  | zero =>
    intro k i s hi hk hs
    obtain ⟨k, rfl⟩ : ∃ m, k = m + 1 := ⟨k - 1, by omega⟩
    have e : i = l.length := by omega
    rw [spec_PlayNails.l0, if_neg (by omega), List.drop_eq_nil_of_le (by omega), playM, e]
  | succ d ih =>
    intro k i s hi hk hs
    obtain ⟨k, rfl⟩ : ∃ m, k = m + 1 := ⟨k - 1, by omega⟩
    have hil : i < l.length := by omega
    have hd : l.drop i = l[i] :: l.drop (i + 1) := List.drop_eq_getElem_cons hil
    have a1 : ((i : Nat) : Int) < (l.length : Int) := by omega
    have a2 : (0 : Int) ≤ ((i : Nat) : Int) := by omega
    have a3 : i + 1 + d = l.length := by omega
    have a4 : d + 200 < k := by omega
    have a5 : 130 < k := by omega
    have ei := w64m9 i (by omega)
    have hin : spec_l1In.f l[i] 1 ((n : Nat) : Int) = some (decide (1 ≤ l[i] ∧ l[i] ≤ ((n : Nat) : Int))) := by
      unfold spec_l1In.f
      by_cases h : l[i] ≥ 1
      · rw [if_pos h]
        by_cases h2 : l[i] ≤ ((n : Nat) : Int)
        · rw [decide_eq_true h2, decide_eq_true ⟨h, h2⟩]
        · rw [decide_eq_false h2, decide_eq_false (fun h3 => h2 h3.2)]
      · rw [if_neg h, decide_eq_false (fun h3 => h h3.1)]
    rw [spec_PlayNails.l0, if_pos a1, if_pos a2, rd_nat _ _ hil, hin, Option.bind_some, hd, playM]
    by_cases hx : 1 ≤ l[i] ∧ l[i] ≤ ((n : Nat) : Int)
    · obtain ⟨b1, b2, b3, _⟩ := play_bits n s hn hs l[i] hx.1 hx.2
      rw [decide_eq_true hx, if_pos rfl, if_pos hx, b1, Option.bind_some]
      by_cases ht : s.testBit (l[i].toNat - 1) = true
      · rw [if_pos ht, if_pos ht]
      · rw [if_neg ht, if_neg ht, falls64 w hok _ (Int.natCast_nonneg _) (Int.ofNat_lt.2 hs) k a5, Option.bind_some]
        by_cases hf : fallB w ((s : Nat) : Int) = true
        · rw [if_pos hf, if_pos hf]
        · rw [if_neg hf, if_neg hf, b2, Option.bind_some, ei]
          exact ih k (i + 1) _ a3 a4 b3
    · rw [decide_eq_false hx, if_neg Bool.false_ne_true, if_neg hx]
theorem impl_play_l0 (T : Int → Bool) (n : Nat) (hn : n ≤ 6) (l : List Int) (hl : l.length < 1000000000) (d : Nat) : ∀ (k i s : Nat), i + d = l.length → d + 200 < k → s < 64 →
    impl_PlayNails.l0 k ((n : Nat) : Int) ((s : Nat) : Int) ((i : Nat) : Int) l (l.length : Int) ((i : Nat) : Int) (tb T) = some (playM T n (l.drop i) s i) := by
  induction d with
  | zero =>
    intro k i s hi hk hs
    obtain ⟨k, rfl⟩ : ∃ m, k = m + 1 := ⟨k - 1, by omega⟩
    have e : i = l.length := by omega
    rw [impl_PlayNails.l0, if_neg (by omega), List.drop_eq_nil_of_le (by omega), playM, e]
  | succ d ih =>
    intro k i s hi hk hs
    obtain ⟨k, rfl⟩ : ∃ m, k = m + 1 := ⟨k - 1, by omega⟩
    have hil : i < l.length := by omega
    have hd : l.drop i = l[i] :: l.drop (i + 1) := List.drop_eq_getElem_cons hil
    have a1 : ((i : Nat) : Int) < (l.length : Int) := by omega
    have a2 : (0 : Int) ≤ ((i : Nat) : Int) := by omega
    have a3 : i + 1 + d = l.length := by omega
    have a4 : d + 200 < k := by omega
    have ei := w64m9 i (by omega)
    rw [impl_PlayNails.l0, if_pos a1, if_pos a2, if_pos a1, rd_nat _ _ hil, hd, playM]
    by_cases h1 : l[i] < 1
    · rw [if_pos h1, if_neg (fun h => by omega)]
    · by_cases h2 : l[i] > ((n : Nat) : Int)
      · rw [if_neg h1, if_pos h2, if_neg (fun h => by omega)]
      · have hx : 1 ≤ l[i] ∧ l[i] ≤ ((n : Nat) : Int) := by omega
        obtain ⟨_, _, b3, b, b0, b4, b5, b6⟩ := play_bits n s hn hs l[i] hx.1 hx.2
        rw [if_neg h1, if_neg h2, if_pos hx, b4, Option.bind_some, b6]
        by_cases ht : s.testBit (l[i].toNat - 1) = true
        · rw [if_pos ht, if_pos ht, if_neg b0]
        · have c1 : (0 : Int) ≤ ((s : Nat) : Int) := Int.natCast_nonneg _
          have c2 : ((s : Nat) : Int) < 64 := Int.ofNat_lt.2 hs
          rw [if_neg ht, if_neg ht, if_pos rfl, if_pos c1, if_pos c2, rd_T T s hs]
          by_cases hf : T ((s : Nat) : Int) = true
          · rw [if_pos hf, if_pos hf]
          · rw [if_neg hf, if_neg hf, Option.bind_some, b5, ei]
            exact ih k (i + 1) _ a3 a4 b3
theorem play_is (w : List Int) (n s : Int) (l : List Int) (hw : w.length < 1000000000) (hl : l.length < 1000000000) (k : Nat) (hk : 2 * w.length + l.length + 500 < k) (r : Int × Int × Bool)
    (hr : r = if gd w n s = true then playM (fallB w) n.toNat l s.toNat 0 else (0, 0, false)) : impl_PlayNails.f k w n s l = some r ∧ spec_PlayNails.f k w n s l = some r := by
  have ho := over w n s hw k (by omega) (fun a b => impl_PlayNails.l0 k n s 0 l (l.length : Int) 0 b) (0, 0, false)
  have hg2 := good_f w n s hw k (by omega)
  constructor
  · refine (show impl_PlayNails.f k w n s l = _ from ho).trans ?_
    rw [hr]
    cases hg : gd w n s with
    | false => rfl
    | true =>
      obtain ⟨n, s, rfl, rfl, h1, h6, h64, h2n, hok, hf, htop⟩ := gd_nat w n s hg
      rw [if_pos rfl, if_pos rfl]
      exact impl_play_l0 (fallB w) n h6 l hl l.length k 0 s (by omega) (by omega) h64
  · rw [spec_PlayNails.f, hg2, Option.bind_some, hr]
    cases hg : gd w n s with
    | false => rfl
    | true =>
      obtain ⟨n, s, rfl, rfl, h1, h6, h64, h2n, hok, hf, htop⟩ := gd_nat w n s hg
      rw [if_pos rfl, if_pos rfl]
      exact spec_play_l0 w hok n h6 l hl l.length k 0 s (by omega) (by omega) h64
end Go.Proofs.Ytbnhnmcbaacdiaa.Q
