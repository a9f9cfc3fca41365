/- The games of taking out nails as plain functions, and that the program's and the reference's functions compute them. Conditions stand in each theorem. -/
import Derived.Test.YtbnhnmcbaacdiaaGT
namespace Go.Proofs.Ytbnhnmcbaacdiaa.Q
open Go.RowKit Go.Proofs.YtbnhnmcbaacdiaaW.PrintWords Go.Proofs.YtbnhnmcbaacdiaaW.PrintLast Go.Proofs.YtbnhnmcbaacdiaaW.PrintMore Go.Proofs.YtbnhnmcbaacdiaaM Go.Proofs.Ytbnhnmcbaacdiaa.K
set_option linter.unusedVariables false
set_option linter.unusedSimpArgs false

/-! nails that are in, and the position behind one -/
def nxN (s : Nat) (x : Int) : Nat := s ||| 2 ^ (x.toNat - 1)
def mvF (s : Nat) : Nat → Nat → List Int
  | _, 0 => []
  | i, d + 1 => if s.testBit i then mvF s (i + 1) d else ((i + 1 : Nat) : Int) :: mvF s (i + 1) d
def mv (n s : Nat) : List Int := mvF s 0 n
theorem g_bits : ∀ s : Fin 64, ∀ i : Fin 6, impl_nailBit.f ((i.val + 1 : Nat) : Int) = some ((2 ^ i.val : Nat) : Int) ∧
    Go.bits .and .i64 ((s.val : Nat) : Int) ((2 ^ i.val : Nat) : Int) = (if s.val.testBit i.val then ((2 ^ i.val : Nat) : Int) else 0) ∧
    Go.bits .or .i64 ((s.val : Nat) : Int) ((2 ^ i.val : Nat) : Int) = ((s.val ||| 2 ^ i.val : Nat) : Int) ∧
    spec_l9Out.f ((s.val : Nat) : Int) ((i.val + 1 : Nat) : Int) = some ((s.val ||| 2 ^ i.val : Nat) : Int) ∧
    spec_l3In.f ((s.val : Nat) : Int) ((i.val + 1 : Nat) : Int) = some (s.val.testBit i.val) ∧ (s.val ||| 2 ^ i.val) < 64 ∧ ((2 ^ i.val : Nat) : Int) ≠ 0 := by decide +kernel
theorem g_less : ∀ n : Fin 7, ∀ s : Fin 64, ∀ i : Fin 6, i.val < n.val → s.val.testBit i.val = false → (mv n.val (s.val ||| 2 ^ i.val)).length < (mv n.val s.val).length := by decide +kernel
theorem g_all : ∀ n : Fin 7, ∀ s : Fin 64, s.val < 2 ^ n.val → mv n.val s.val = [] → s.val = 2 ^ n.val - 1 := by decide +kernel
theorem g_top : ∀ n : Fin 7, ∀ s : Fin 64, ∀ i : Fin 6, i.val < n.val → s.val < 2 ^ n.val → (s.val ||| 2 ^ i.val) < 2 ^ n.val := by decide +kernel
theorem mvF_mem (s : Nat) (x : Int) : ∀ (d i : Nat), x ∈ mvF s i d → ∃ j, i ≤ j ∧ j < i + d ∧ x = ((j + 1 : Nat) : Int) ∧ s.testBit j = false
  | 0, _, h => by cases h
  | d + 1, i, h => by
    rw [mvF] at h
    by_cases hb : s.testBit i = true
    · rw [if_pos hb] at h
      obtain ⟨j, h1, h2, h3, h4⟩ := mvF_mem s x d (i + 1) h
      exact ⟨j, by omega, by omega, h3, h4⟩
    · rw [if_neg hb] at h
      rcases List.mem_cons.1 h with h | h
      · exact ⟨i, by omega, by omega, h, by simpa using hb⟩
      · obtain ⟨j, h1, h2, h3, h4⟩ := mvF_mem s x d (i + 1) h
        exact ⟨j, by omega, by omega, h3, h4⟩
theorem mvF_len (s : Nat) : ∀ (d i : Nat), (mvF s i d).length ≤ d
  | 0, _ => Nat.le_refl _
  | d + 1, i => by
    have := mvF_len s d (i + 1)
    rw [mvF]
    split
    · omega
    · rw [List.length_cons]; omega
theorem mv_len (n s : Nat) : (mv n s).length ≤ n := mvF_len s n 0
/-- What is known of a nail that is in. -/
structure In (n s : Nat) (x : Int) : Prop where
  bit : ∃ b : Int, impl_nailBit.f x = some b ∧ Go.bits .or .i64 ((s : Nat) : Int) b = ((nxN s x : Nat) : Int)
  out : spec_l9Out.f ((s : Nat) : Int) x = some ((nxN s x : Nat) : Int)
  lt : nxN s x < 64
  less : (mv n (nxN s x)).length < (mv n s).length
  top : s < 2 ^ n → nxN s x < 2 ^ n
theorem in_of (n s : Nat) (hn : n ≤ 6) (hs : s < 64) (j : Nat) (hj : j < n) (hb : s.testBit j = false) : In n s ((j + 1 : Nat) : Int) := by
  obtain ⟨h1, h2, h3, h4, h5, h6, h7⟩ := g_bits ⟨s, hs⟩ ⟨j, by omega⟩
  have h8 := g_less ⟨n, by omega⟩ ⟨s, hs⟩ ⟨j, by omega⟩ hj hb
  have h9 := g_top ⟨n, by omega⟩ ⟨s, hs⟩ ⟨j, by omega⟩ hj
  have e : nxN s ((j + 1 : Nat) : Int) = s ||| 2 ^ j := by
    unfold nxN
    have : ((j + 1 : Nat) : Int).toNat - 1 = j := by omega
    rw [this]
  simp only at h1 h2 h3 h4 h5 h6 h8 h9
  exact ⟨⟨_, h1, by rw [e]; exact h3⟩, by rw [e]; exact h4, by rw [e]; exact h6, by rw [e]; exact h8, fun h => by rw [e]; exact h9 h⟩
theorem mv_in (n s : Nat) (hn : n ≤ 6) (hs : s < 64) (x : Int) (hx : x ∈ mv n s) : In n s x := by
  obtain ⟨j, _, hj, rfl, hb⟩ := mvF_mem s x n 0 hx
  exact in_of n s hn hs j (by omega) hb
theorem game_in_l0 (n s : Nat) (hn : n ≤ 6) (hs : s < 64) (d : Nat) : ∀ (k i : Nat) (out : List Int), i + d = n → d < k → out.length + d < 1000 → impl_game_in.l0 k ((s : Nat) : Int) ((i + 1 : Nat) : Int) out ((n : Nat) : Int) = some (out ++ mvF s i d) := by
  induction d with
  | zero =>
    intro k i out hi hk ho
    obtain ⟨k, rfl⟩ : ∃ m, k = m + 1 := ⟨k - 1, by omega⟩
    rw [impl_game_in.l0, if_neg (by omega), mvF, List.append_nil]
  | succ d ih =>
    intro k i out hi hk ho
    obtain ⟨k, rfl⟩ : ∃ m, k = m + 1 := ⟨k - 1, by omega⟩
    obtain ⟨h1, h2, h3, h4, h5, h6, h7⟩ := g_bits ⟨s, hs⟩ ⟨i, by omega⟩
    simp only at h1 h2 h7
    have ei : wrap64 (((i + 1 : Nat) : Int) + 1) = ((i + 1 + 1 : Nat) : Int) := w64 (i + 1) (by omega)
    rw [impl_game_in.l0, if_pos (by omega), h1, Option.bind_some, h2, mvF, ei]
    by_cases hb : s.testBit i = true
    · rw [if_pos hb, if_pos hb, if_neg h7]
      exact ih k (i + 1) out (by omega) (by omega) (by omega)
    · rw [if_neg hb, if_neg hb, if_pos rfl, if_pos (by omega), ih k (i + 1) _ (by omega) (by omega) (by simp; omega), List.append_assoc]
      rfl
theorem game_in_f (n s : Nat) (hn : n ≤ 6) (hs : s < 64) (k : Nat) (hk : 10 < k) (l : List Bool) : impl_game_in.f k ((n : Nat) : Int) l ((s : Nat) : Int) = some (mv n s) := by
  have := game_in_l0 n s hn hs n k 0 [] (by omega) (by omega) (by simp; omega)
  exact this
theorem moves_l0 (n s : Nat) (hn : n ≤ 6) (hs : s < 64) (d : Nat) : ∀ (k i : Nat) (out : List Int), i + d = n → d < k → out.length + d < 1000 → spec_l9Moves.l0 k ((n : Nat) : Int) ((s : Nat) : Int) out ((i + 1 : Nat) : Int) = some (out ++ mvF s i d) := by
  induction d with
  | zero =>
    intro k i out hi hk ho
    obtain ⟨k, rfl⟩ : ∃ m, k = m + 1 := ⟨k - 1, by omega⟩
    rw [spec_l9Moves.l0, if_neg (by omega), mvF, List.append_nil]
  | succ d ih =>
    intro k i out hi hk ho
    obtain ⟨k, rfl⟩ : ∃ m, k = m + 1 := ⟨k - 1, by omega⟩
    obtain ⟨h1, h2, h3, h4, h5, h6, h7⟩ := g_bits ⟨s, hs⟩ ⟨i, by omega⟩
    simp only at h5
    have ei : wrap64 (((i + 1 : Nat) : Int) + 1) = ((i + 1 + 1 : Nat) : Int) := w64 (i + 1) (by omega)
    rw [spec_l9Moves.l0, if_pos (by omega), h5, Option.bind_some, mvF, ei]
    by_cases hb : s.testBit i = true
    · rw [if_pos hb, if_pos hb]
      exact ih k (i + 1) out (by omega) (by omega) (by omega)
    · rw [if_neg hb, if_neg hb, if_pos (by omega), ih k (i + 1) _ (by omega) (by omega) (by simp; omega), List.append_assoc]
      rfl
theorem moves_f (n s : Nat) (hn : n ≤ 6) (hs : s < 64) (k : Nat) (hk : 10 < k) : spec_l9Moves.f k ((n : Nat) : Int) ((s : Nat) : Int) = some (mv n s) := by
  have := moves_l0 n s hn hs n k 0 [] (by omega) (by omega) (by simp; omega)
  exact this
theorem that_f (n s : Nat) (hn : n ≤ 6) (hs : s < 64) (k : Nat) (hk : 10 < k) (l : List Bool) (g : Int → Option Bool) (p : Int → Bool) (hg : ∀ x ∈ mv n s, g ((nxN s x : Nat) : Int) = some (p x)) :
    impl_game_that.f k ((n : Nat) : Int) l ((s : Nat) : Int) g = some ((mv n s).filter p) := by
  have h1 : ∀ x ∈ mv n s, impl_game_that_1.f x g ((s : Nat) : Int) = some (!p x) := by
    intro x hx
    obtain ⟨⟨b, hb, hb2⟩, _, _, _, _⟩ := mv_in n s hn hs x hx
    rw [impl_game_that_1.f, hb, Option.bind_some, hb2, hg x hx, Option.bind_some]
  rw [impl_game_that.f, game_in_f n s hn hs k hk, Option.bind_some, slices_DeleteFunc_int_int.f, delF_filter _ (fun x => !p x) _ h1, Option.bind_some]
  simp
theorem rd_T (T : Int → Bool) (s : Nat) (hs : s < 64) : rdOf false (tb T) ((s : Nat) : Int) = T ((s : Nat) : Int) := tb_rd T _ (by omega) (by omega)
theorem filter_none (l : List Int) (p : Int → Bool) : (((l.filter p).length : Int) == 0) = !l.any p := by
  rw [Bool.eq_iff_iff]
  simp
theorem wsucc (i : Nat) (h : i < 1000) : wrap64 (((i : Nat) : Int) + 1) = ((i + 1 : Nat) : Int) := w64 i (by omega)
/-! the game to drop -/
def dropM (T : Int → Bool) (n : Nat) : Nat → Nat → Bool
  | 0, _ => false
  | m + 1, s => (mv n s).any fun x => T ((nxN s x : Nat) : Int) || !dropM T n m (nxN s x)
def dropP (T : Int → Bool) (n m s : Nat) (x : Int) : Bool := T ((nxN s x : Nat) : Int) || !dropM T n m (nxN s x)
theorem drops_f (T : Int → Bool) (n : Nat) (hn : n ≤ 6) (m : Nat) : ∀ (s k : Nat), s < 64 → (mv n s).length ≤ m → m + 50 < k → impl_game_drops.f k ((n : Nat) : Int) (tb T) ((s : Nat) : Int) = some ((mv n s).filter (dropP T n (m - 1) s)) := by
  induction m with
  | zero =>
    intro s k hs hm hk
    obtain ⟨k, rfl⟩ : ∃ q, k = q + 1 := ⟨k - 1, by omega⟩
    have h0 : mv n s = [] := List.length_eq_zero_iff.1 (by omega)
    rw [impl_game_drops.f, that_f n s hn hs k (by omega) _ _ (dropP T n (0 - 1) s) (by rw [h0]; intro x hx; cases hx)]
    rfl
  | succ m ih =>
    intro s k hs hm hk
    obtain ⟨k, rfl⟩ : ∃ q, k = q + 1 := ⟨k - 1, by omega⟩
    rw [impl_game_drops.f, that_f n s hn hs k (by omega) _ _ (dropP T n m s) ?_]
    · rfl
    · intro x hx
      have hi := mv_in n s hn hs x hx
      have hl := hi.lt
      have h2 := ih (nxN s x) k hl (by have := hi.less; omega) (by omega)
      have e0 : (0 : Int) ≤ ((nxN s x : Nat) : Int) := by omega
      have e1 : ((nxN s x : Nat) : Int) < 64 := by omega
      rw [impl_game_drops_1.f, if_pos e0, if_pos e1, rd_T T _ hl, h2, Option.bind_some, filter_none]
      have hd : dropM T n m (nxN s x) = (mv n (nxN s x)).any (dropP T n (m - 1) (nxN s x)) := by
        cases m with
        | zero =>
          have h0 : mv n (nxN s x) = [] := List.length_eq_zero_iff.1 (by have := hi.less; omega)
          rw [h0]; rfl
        | succ m => rfl
      rw [← hd]
      unfold dropP
      cases T ((nxN s x : Nat) : Int) <;> simp
theorem l9Drop_l0 (T : Int → Bool) (n : Nat) (hn : n ≤ 6) (m s : Nat) (hs : s < 64) (kb : Nat) (ih : ∀ x ∈ mv n s, ∀ k, kb < k → spec_l9Drop.f k (tb T) ((n : Nat) : Int) ((nxN s x : Nat) : Int) = some (dropM T n m (nxN s x))) (d : Nat) :
    ∀ (k i : Nat), i + d = (mv n s).length → kb + d + 2 < k → spec_l9Drop.l0 k ((n : Nat) : Int) ((s : Nat) : Int) ((i : Nat) : Int) (mv n s) (tb T) = some (((mv n s).drop i).any (dropP T n m s)) := by
  have hlen := mv_len n s
  induction d with
  | zero =>
    intro k i hi hk
    obtain ⟨k, rfl⟩ : ∃ q, k = q + 1 := ⟨k - 1, by omega⟩
    rw [spec_l9Drop.l0, if_neg (by omega), List.drop_eq_nil_of_le (by omega)]
    rfl
  | succ d ihd =>
    intro k i hi hk
    obtain ⟨k, rfl⟩ : ∃ q, k = q + 1 := ⟨k - 1, by omega⟩
    have hl : i < (mv n s).length := by omega
    have hx : (mv n s)[i] ∈ mv n s := List.getElem_mem hl
    have hin := mv_in n s hn hs _ hx
    have hlt := hin.lt
    have e0 : (0 : Int) ≤ ((nxN s (mv n s)[i] : Nat) : Int) := by omega
    have e1 : ((nxN s (mv n s)[i] : Nat) : Int) < 64 := by omega
    have ei := wsucc i (by omega)
    have hd : (mv n s).drop i = (mv n s)[i] :: (mv n s).drop (i + 1) := List.drop_eq_getElem_cons hl
    rw [spec_l9Drop.l0, if_pos (by omega), if_pos (by omega), rd_nat _ _ hl, hin.out, Option.bind_some, if_pos e0, if_pos e1, rd_T T _ hlt, ih _ hx k (by omega), Option.bind_some, ei, hd, List.any_cons]
    rw [ihd k (i + 1) (by omega) (by omega)]
    unfold dropP
    cases hT : T ((nxN s (mv n s)[i] : Nat) : Int) <;> cases hD : dropM T n m (nxN s (mv n s)[i]) <;> simp
theorem l9Drop_f (T : Int → Bool) (n : Nat) (hn : n ≤ 6) (m : Nat) : ∀ (s k : Nat), s < 64 → (mv n s).length ≤ m → 20 * m + 50 < k → spec_l9Drop.f k (tb T) ((n : Nat) : Int) ((s : Nat) : Int) = some (dropM T n m s) := by
  induction m with
  | zero =>
    intro s k hs hm hk
    obtain ⟨k, rfl⟩ : ∃ q, k = q + 2 := ⟨k - 2, by omega⟩
    have h0 : mv n s = [] := List.length_eq_zero_iff.1 (by omega)
    rw [spec_l9Drop.f, moves_f n s hn hs (k + 1) (by omega), Option.bind_some, h0, spec_l9Drop.l0, if_neg (by simp)]
    rfl
  | succ m ih =>
    intro s k hs hm hk
    obtain ⟨k, rfl⟩ : ∃ q, k = q + 1 := ⟨k - 1, by omega⟩
    have hlen := mv_len n s
    have := l9Drop_l0 T n hn m s hs (20 * m + 50) (fun x hx k hk => by
      have hin := mv_in n s hn hs _ hx
      exact ih (nxN s x) k hin.lt (by have := hin.less; omega) hk) (mv n s).length k 0 (by omega) (by omega)
    rw [spec_l9Drop.f, moves_f n s hn hs k (by omega), Option.bind_some]
    exact this
/-- whether there is a move, and the list of moves -/
theorem drop_any (T : Int → Bool) (n m s : Nat) (hm : (mv n s).length ≤ m) : decide ((((mv n s).filter (dropP T n (m - 1) s)).length : Int) > 0) = dropM T n m s := by
  have h := filter_none (mv n s) (dropP T n (m - 1) s)
  have hd : dropM T n m s = (mv n s).any (dropP T n (m - 1) s) := by
    cases m with
    | zero =>
      have h0 : mv n s = [] := List.length_eq_zero_iff.1 (by omega)
      rw [h0]; rfl
    | succ m => rfl
  rw [hd]
  cases ha : (mv n s).any (dropP T n (m - 1) s) with
  | true =>
    rw [ha] at h
    have h2 := beq_eq_false_iff_ne.1 h
    exact decide_eq_true (by omega)
  | false =>
    rw [ha] at h
    have h2 := beq_iff_eq.1 h
    exact decide_eq_false (by omega)
/-! the game to keep -/
def keepM (T : Int → Bool) (n : Nat) : Nat → Nat → Bool
  | 0, _ => false
  | m + 1, s => (mv n s).any fun x => !T ((nxN s x : Nat) : Int) && !keepM T n m (nxN s x)
def keepP (T : Int → Bool) (n m s : Nat) (x : Int) : Bool := !T ((nxN s x : Nat) : Int) && !keepM T n m (nxN s x)
theorem keeps_f (T : Int → Bool) (n : Nat) (hn : n ≤ 6) (m : Nat) : ∀ (s k : Nat), s < 64 → (mv n s).length ≤ m → m + 50 < k → impl_game_keeps.f k ((n : Nat) : Int) (tb T) ((s : Nat) : Int) = some ((mv n s).filter (keepP T n (m - 1) s)) := by
  induction m with
  | zero =>
    intro s k hs hm hk
    obtain ⟨k, rfl⟩ : ∃ q, k = q + 1 := ⟨k - 1, by omega⟩
    have h0 : mv n s = [] := List.length_eq_zero_iff.1 (by omega)
    rw [impl_game_keeps.f, that_f n s hn hs k (by omega) _ _ (keepP T n (0 - 1) s) (by rw [h0]; intro x hx; cases hx)]
    rfl
  | succ m ih =>
    intro s k hs hm hk
    obtain ⟨k, rfl⟩ : ∃ q, k = q + 1 := ⟨k - 1, by omega⟩
    rw [impl_game_keeps.f, that_f n s hn hs k (by omega) _ _ (keepP T n m s) ?_]
    · rfl
    · intro x hx
      have hi := mv_in n s hn hs x hx
      have hl := hi.lt
      have h2 := ih (nxN s x) k hl (by have := hi.less; omega) (by omega)
      have e0 : (0 : Int) ≤ ((nxN s x : Nat) : Int) := by omega
      have e1 : ((nxN s x : Nat) : Int) < 64 := by omega
      rw [impl_game_keeps_1.f, if_pos e0, if_pos e1, rd_T T _ hl, h2, Option.bind_some, filter_none]
      have hd : keepM T n m (nxN s x) = (mv n (nxN s x)).any (keepP T n (m - 1) (nxN s x)) := by
        cases m with
        | zero =>
          have h0 : mv n (nxN s x) = [] := List.length_eq_zero_iff.1 (by have := hi.less; omega)
          rw [h0]; rfl
        | succ m => rfl
      rw [← hd]
      unfold keepP
      cases T ((nxN s x : Nat) : Int) <;> simp
theorem l9Keep_l0 (T : Int → Bool) (n : Nat) (hn : n ≤ 6) (m s : Nat) (hs : s < 64) (kb : Nat) (ih : ∀ x ∈ mv n s, ∀ k, kb < k → spec_l9Keep.f k (tb T) ((n : Nat) : Int) ((nxN s x : Nat) : Int) = some (keepM T n m (nxN s x))) (d : Nat) :
    ∀ (k i : Nat), i + d = (mv n s).length → kb + d + 2 < k → spec_l9Keep.l0 k ((n : Nat) : Int) ((s : Nat) : Int) ((i : Nat) : Int) (mv n s) (tb T) = some (((mv n s).drop i).any (keepP T n m s)) := by
  have hlen := mv_len n s
  induction d with
  | zero =>
    intro k i hi hk
    obtain ⟨k, rfl⟩ : ∃ q, k = q + 1 := ⟨k - 1, by omega⟩
    rw [spec_l9Keep.l0, if_neg (by omega), List.drop_eq_nil_of_le (by omega)]
    rfl
  | succ d ihd =>
    intro k i hi hk
    obtain ⟨k, rfl⟩ : ∃ q, k = q + 1 := ⟨k - 1, by omega⟩
    have hl : i < (mv n s).length := by omega
    have hx : (mv n s)[i] ∈ mv n s := List.getElem_mem hl
    have hin := mv_in n s hn hs _ hx
    have hlt := hin.lt
    have e0 : (0 : Int) ≤ ((nxN s (mv n s)[i] : Nat) : Int) := by omega
    have e1 : ((nxN s (mv n s)[i] : Nat) : Int) < 64 := by omega
    have ei := wsucc i (by omega)
    have hd : (mv n s).drop i = (mv n s)[i] :: (mv n s).drop (i + 1) := List.drop_eq_getElem_cons hl
    rw [spec_l9Keep.l0, if_pos (by omega), if_pos (by omega), rd_nat _ _ hl, hin.out, Option.bind_some, if_pos e0, if_pos e1, rd_T T _ hlt, ih _ hx k (by omega), Option.bind_some, ei, hd, List.any_cons]
    rw [ihd k (i + 1) (by omega) (by omega)]
    unfold keepP
    cases hT : T ((nxN s (mv n s)[i] : Nat) : Int) <;> cases hD : keepM T n m (nxN s (mv n s)[i]) <;> simp
theorem l9Keep_f (T : Int → Bool) (n : Nat) (hn : n ≤ 6) (m : Nat) : ∀ (s k : Nat), s < 64 → (mv n s).length ≤ m → 20 * m + 50 < k → spec_l9Keep.f k (tb T) ((n : Nat) : Int) ((s : Nat) : Int) = some (keepM T n m s) := by
  induction m with
  | zero =>
    intro s k hs hm hk
    obtain ⟨k, rfl⟩ : ∃ q, k = q + 2 := ⟨k - 2, by omega⟩
    have h0 : mv n s = [] := List.length_eq_zero_iff.1 (by omega)
    rw [spec_l9Keep.f, moves_f n s hn hs (k + 1) (by omega), Option.bind_some, h0, spec_l9Keep.l0, if_neg (by simp)]
    rfl
  | succ m ih =>
    intro s k hs hm hk
    obtain ⟨k, rfl⟩ : ∃ q, k = q + 1 := ⟨k - 1, by omega⟩
    have hlen := mv_len n s
    have := l9Keep_l0 T n hn m s hs (20 * m + 50) (fun x hx k hk => by
      have hin := mv_in n s hn hs _ hx
      exact ih (nxN s x) k hin.lt (by have := hin.less; omega) hk) (mv n s).length k 0 (by omega) (by omega)
    rw [spec_l9Keep.f, moves_f n s hn hs k (by omega), Option.bind_some]
    exact this
/-- whether there is a move, and the list of moves -/
theorem keep_any (T : Int → Bool) (n m s : Nat) (hm : (mv n s).length ≤ m) : decide ((((mv n s).filter (keepP T n (m - 1) s)).length : Int) > 0) = keepM T n m s := by
  have h := filter_none (mv n s) (keepP T n (m - 1) s)
  have hd : keepM T n m s = (mv n s).any (keepP T n (m - 1) s) := by
    cases m with
    | zero =>
      have h0 : mv n s = [] := List.length_eq_zero_iff.1 (by omega)
      rw [h0]; rfl
    | succ m => rfl
  rw [hd]
  cases ha : (mv n s).any (keepP T n (m - 1) s) with
  | true =>
    rw [ha] at h
    have h2 := beq_eq_false_iff_ne.1 h
    exact decide_eq_true (by omega)
  | false =>
    rw [ha] at h
    have h2 := beq_iff_eq.1 h
    exact decide_eq_false (by omega)
/-! the length of a game, if of two numbers one is chosen -/
def best (c : Int → Int → Int) : List Int → Int
  | [] => 0
  | v :: t => t.foldl c v
def lenM (T : Int → Bool) (n : Nat) (c : Int → Int → Int) : Nat → Nat → Int
  | 0, _ => 0
  | m + 1, s => if T ((s : Nat) : Int) = true then 0 else best c ((mv n s).map fun x => 1 + lenM T n c m (nxN s x))
/-- c chooses one of both -/
def chooses (c : Int → Int → Int) : Prop := (∀ a b, c a b = a ∨ c a b = b) ∧ ∀ a, c a a = a
theorem fold_bd (c : Int → Int → Int) (hc : chooses c) (B : Int) : ∀ (l : List Int) (b : Int), (∀ x ∈ l, 0 ≤ x ∧ x ≤ B) → 0 ≤ b ∧ b ≤ B → 0 ≤ l.foldl c b ∧ l.foldl c b ≤ B
  | [], _, _, h => h
  | x :: l, b, hl, h => by
    rw [List.foldl_cons]
    refine fold_bd c hc B l _ (fun y hy => hl y (List.mem_cons_of_mem _ hy)) ?_
    have hx := hl x List.mem_cons_self
    rcases hc.1 b x with e | e <;> rw [e] <;> assumption
theorem best_bd (c : Int → Int → Int) (hc : chooses c) (B : Int) (hB : 0 ≤ B) (l : List Int) (h : ∀ x ∈ l, 0 ≤ x ∧ x ≤ B) : 0 ≤ best c l ∧ best c l ≤ B := by
  cases l with
  | nil => exact ⟨Int.le_refl _, hB⟩
  | cons v t => exact fold_bd c hc B t v (fun y hy => h y (List.mem_cons_of_mem _ hy)) (h v List.mem_cons_self)
theorem lenM_bd (T : Int → Bool) (n : Nat) (c : Int → Int → Int) (hc : chooses c) (m : Nat) : ∀ s, 0 ≤ lenM T n c m s ∧ lenM T n c m s ≤ (m : Int) := by
  induction m with
  | zero => intro s; exact ⟨Int.le_refl _, Int.le_refl _⟩
  | succ m ih =>
    intro s
    rw [lenM]
    split
    · omega
    · refine best_bd c hc _ (by omega) _ (fun x hx => ?_)
      obtain ⟨y, _, rfl⟩ := List.mem_map.1 hx
      have := ih (nxN s y)
      omega
theorem lenM_T (T : Int → Bool) (n : Nat) (c : Int → Int → Int) (m s : Nat) (h : T ((s : Nat) : Int) = true) : lenM T n c m s = 0 := by
  cases m with
  | zero => rfl
  | succ m => rw [lenM, if_pos h]
theorem wone (v : Int) (m : Nat) (hm : m ≤ 100) (h0 : 0 ≤ v) (h1 : v ≤ (m : Int)) : wrap64 (1 + v) = 1 + v := by unfold wrap64; omega
theorem length_l0 (T : Int → Bool) (n : Nat) (hn : n ≤ 6) (c : Int → Int → Int) (hc : chooses c) (g : Int → Int → Option Int) (hg : ∀ a b, g a b = some (c a b)) (m s : Nat) (hm6 : m ≤ 100) (hs : s < 64) (kb : Nat)
    (ih : ∀ x ∈ mv n s, ∀ k, kb < k → T ((nxN s x : Nat) : Int) = false → impl_game_length.f k ((n : Nat) : Int) (tb T) ((nxN s x : Nat) : Int) g = some (lenM T n c m (nxN s x))) (d : Nat) :
    ∀ (k i : Nat) (b : Int), i + d = (mv n s).length → kb + d + 2 < k → impl_game_length.l0 k ((s : Nat) : Int) g b ((mv n s).length : Int) ((i : Nat) : Int) (mv n s) ((n : Nat) : Int) (tb T) =
      some (if i = 0 ∧ 0 < d then best c ((mv n s).map fun x => 1 + lenM T n c m (nxN s x)) else (((mv n s).drop i).map fun x => 1 + lenM T n c m (nxN s x)).foldl c b) := by
  have hlen := mv_len n s
  induction d with
  | zero =>
    intro k i b hi hk
    obtain ⟨k, rfl⟩ : ∃ q, k = q + 1 := ⟨k - 1, by omega⟩
    rw [impl_game_length.l0, if_neg (by omega), List.drop_eq_nil_of_le (by omega), if_neg (by omega)]
    rfl
  | succ d ihd =>
    intro k i b hi hk
    obtain ⟨k, rfl⟩ : ∃ q, k = q + 1 := ⟨k - 1, by omega⟩
    have hl : i < (mv n s).length := by omega
    have a1 : ((i : Nat) : Int) < ((mv n s).length : Int) := by omega
    have a2 : (0 : Int) ≤ ((i : Nat) : Int) := by omega
    have a3 : kb < k := by omega
    have a4 : i + 1 + d = (mv n s).length := by omega
    have a5 : kb + d + 2 < k := by omega
    have a6 : ¬ (i + 1 = 0 ∧ 0 < d) := by omega
    have a7 : 0 < d + 1 := by omega
    have a8 : i < 1000 := by omega
    have ei := wsucc i a8
    have hx : (mv n s)[i] ∈ mv n s := List.getElem_mem hl
    have hd : (mv n s).drop i = (mv n s)[i] :: (mv n s).drop (i + 1) := List.drop_eq_getElem_cons hl
    have hin := mv_in n s hn hs _ hx
    have hlt := hin.lt
    have e0 : (0 : Int) ≤ ((nxN s (mv n s)[i] : Nat) : Int) := Int.natCast_nonneg _
    have e1 : ((nxN s (mv n s)[i] : Nat) : Int) < 64 := Int.ofNat_lt.2 hlt
    obtain ⟨bt, hb, hb2⟩ := hin.bit
    have ihx := ih _ hx k a3
    obtain ⟨v, hv⟩ : ∃ v, v = lenM T n c m (nxN s (mv n s)[i]) := ⟨_, rfl⟩
    have hbd := lenM_bd T n c hc m (nxN s (mv n s)[i])
    have hT0 := lenM_T T n c m (nxN s (mv n s)[i])
    rw [← hv] at ihx hbd hT0
    have ew := wone v m hm6 hbd.1 hbd.2
    have hnext := ihd k (i + 1)
    have h0 : impl_game_length.l0 (k + 1) ((s : Nat) : Int) g b ((mv n s).length : Int) ((i : Nat) : Int) (mv n s) ((n : Nat) : Int) (tb T) = impl_game_length.l0 k ((s : Nat) : Int) g (if i = 0 then 1 + v else c b (1 + v)) ((mv n s).length : Int) (((i + 1 : Nat) : Nat) : Int) (mv n s) ((n : Nat) : Int) (tb T) := by
      rw [impl_game_length.l0, if_pos a1, if_pos a2, if_pos a1, rd_nat _ _ hl, hb, Option.bind_some, hb2, if_pos e0, if_pos e1, rd_T T _ hlt, ei]
      cases hT : T ((nxN s (mv n s)[i] : Nat) : Int) with
      | true =>
        have hv0 := hT0 hT
        rw [hv0] at ew ⊢
        rw [if_pos rfl]
        by_cases hz : i = 0
        · have hzi : ((i : Nat) : Int) = 0 := by rw [hz]; rfl
          rw [if_pos hzi, if_pos hz, hg, Option.bind_some, hc.2]; rfl
        · have hzi : ¬ ((i : Nat) : Int) = 0 := fun h => hz (Int.ofNat_inj.1 h)
          rw [if_neg hzi, if_neg hz, hg, Option.bind_some]; rfl
      | false =>
        rw [if_neg Bool.false_ne_true, ihx hT, Option.bind_some, ew]
        by_cases hz : i = 0
        · have hzi : ((i : Nat) : Int) = 0 := by rw [hz]; rfl
          rw [if_pos hzi, if_pos hz, hg, Option.bind_some, hc.2]
        · have hzi : ¬ ((i : Nat) : Int) = 0 := fun h => hz (Int.ofNat_inj.1 h)
          rw [if_neg hzi, if_neg hz, hg, Option.bind_some]
    rw [h0, hnext _ a4 a5, if_neg a6]
    by_cases hz : i = 0
    · subst hz
      have hm2 : mv n s = (mv n s)[0] :: (mv n s).drop 1 := by simpa using hd
      rw [if_pos rfl, if_pos ⟨rfl, a7⟩]
      have e2 : best c ((mv n s).map fun x => 1 + lenM T n c m (nxN s x)) = (((mv n s).drop 1).map fun x => 1 + lenM T n c m (nxN s x)).foldl c (1 + v) := by
        rw [hv]
        conv => lhs; rw [hm2]
        rfl
      rw [e2]
    · rw [if_neg hz, if_neg (fun h => hz h.1), hd, List.map_cons, List.foldl_cons, ← hv]
theorem length_f (T : Int → Bool) (n : Nat) (hn : n ≤ 6) (c : Int → Int → Int) (hc : chooses c) (g : Int → Int → Option Int) (hg : ∀ a b, g a b = some (c a b)) (m : Nat) : ∀ (s k : Nat), m ≤ 100 → s < 64 → (mv n s).length ≤ m → 20 * m + 50 < k → T ((s : Nat) : Int) = false →
    impl_game_length.f k ((n : Nat) : Int) (tb T) ((s : Nat) : Int) g = some (lenM T n c m s) := by
  induction m with
  | zero =>
    intro s k hm1 hs hm hk hT
    obtain ⟨k, rfl⟩ : ∃ q, k = q + 2 := ⟨k - 2, by omega⟩
    have h0 : mv n s = [] := List.length_eq_zero_iff.1 (by omega)
    rw [impl_game_length.f, game_in_f n s hn hs (k + 1) (by omega), Option.bind_some, h0, impl_game_length.l0, if_neg (by simp)]
    rfl
  | succ m ih =>
    intro s k hm1 hs hm hk hT
    obtain ⟨k, rfl⟩ : ∃ q, k = q + 1 := ⟨k - 1, by omega⟩
    have hlen := mv_len n s
    have h := length_l0 T n hn c hc g hg m s (by omega) hs (20 * m + 50) (fun x hx k hk hT => by
      have hin := mv_in n s hn hs _ hx
      exact ih (nxN s x) k (by omega) hin.lt (by have := hin.less; omega) hk hT) (mv n s).length k 0 0 (by omega) (by omega)
    rw [impl_game_length.f, game_in_f n s hn hs k (by omega), Option.bind_some]
    refine h.trans ?_
    have hT2 : ¬ T ((s : Nat) : Int) = true := by rw [hT]; exact Bool.false_ne_true
    have e2 : lenM T n c (m + 1) s = best c ((mv n s).map fun x => 1 + lenM T n c m (nxN s x)) := by rw [lenM, if_neg hT2]
    rw [e2]
    by_cases hz : 0 < (mv n s).length
    · rw [if_pos ⟨rfl, hz⟩]
    · have h0 : mv n s = [] := List.length_eq_zero_iff.1 (Nat.eq_zero_of_not_pos hz)
      rw [if_neg (fun h => hz h.2), h0]; rfl
/-- the reference's choice -/
def cOf (most : Bool) (a b : Int) : Int := if most = true then (if b > a then b else a) else (if b < a then b else a)
theorem cOf_chooses (most : Bool) : chooses (cOf most) := by
  constructor
  · intro a b
    unfold cOf
    cases most
    · by_cases h : b < a
      · right; simp [h]
      · left; simp [h]
    · by_cases h : b > a
      · right; simp [h]
      · left; simp [h]
  · intro a
    unfold cOf
    cases most <;> simp
theorem l9Length_l0 (T : Int → Bool) (n : Nat) (hn : n ≤ 6) (most : Bool) (m s : Nat) (hm6 : m ≤ 100) (hs : s < 64) (kb : Nat)
    (ih : ∀ x ∈ mv n s, ∀ k, kb < k → spec_l9Length.f k (tb T) ((n : Nat) : Int) ((nxN s x : Nat) : Int) most = some (lenM T n (cOf most) m (nxN s x))) (d : Nat) :
    ∀ (k i : Nat) (b : Int), i + d = (mv n s).length → kb + d + 2 < k → 0 ≤ b → spec_l9Length.l0 k ((n : Nat) : Int) ((s : Nat) : Int) most b ((i : Nat) : Int) (mv n s) (tb T) =
      some ((((mv n s).drop i).map fun x => 1 + lenM T n (cOf most) m (nxN s x)).foldl (cOf most) b) := by
  have hlen := mv_len n s
  have hc := cOf_chooses most
  induction d with
  | zero =>
    intro k i b hi hk hb
    obtain ⟨k, rfl⟩ : ∃ q, k = q + 1 := ⟨k - 1, by omega⟩
    rw [spec_l9Length.l0, if_neg (by omega), List.drop_eq_nil_of_le (by omega)]
    rfl
  | succ d ihd =>
    intro k i b hi hk hb
    obtain ⟨k, rfl⟩ : ∃ q, k = q + 1 := ⟨k - 1, by omega⟩
    have hl : i < (mv n s).length := by omega
    have a1 : ((i : Nat) : Int) < ((mv n s).length : Int) := by omega
    have a2 : (0 : Int) ≤ ((i : Nat) : Int) := by omega
    have a3 : kb < k := by omega
    have a4 : i + 1 + d = (mv n s).length := by omega
    have a5 : kb + d + 2 < k := by omega
    have a8 : i < 1000 := by omega
    have ei := wsucc i a8
    have hnb : ¬ b < 0 := by omega
    have hx : (mv n s)[i] ∈ mv n s := List.getElem_mem hl
    have hd : (mv n s).drop i = (mv n s)[i] :: (mv n s).drop (i + 1) := List.drop_eq_getElem_cons hl
    have hin := mv_in n s hn hs _ hx
    have ihx := ih _ hx k a3
    obtain ⟨v, hv⟩ : ∃ v, v = lenM T n (cOf most) m (nxN s (mv n s)[i]) := ⟨_, rfl⟩
    have hbd := lenM_bd T n (cOf most) hc m (nxN s (mv n s)[i])
    rw [← hv] at ihx hbd
    have ew := wone v m hm6 hbd.1 hbd.2
    have hnext := ihd k (i + 1)
    have hv1 : 0 ≤ 1 + v := Int.add_nonneg (by decide) hbd.1
    have hb9 : 0 ≤ cOf most b (1 + v) := by rcases hc.1 b (1 + v) with e | e <;> rw [e] <;> assumption
    have h0 : spec_l9Length.l0 (k + 1) ((n : Nat) : Int) ((s : Nat) : Int) most b ((i : Nat) : Int) (mv n s) (tb T) = spec_l9Length.l0 k ((n : Nat) : Int) ((s : Nat) : Int) most (cOf most b (1 + v)) (((i + 1 : Nat) : Nat) : Int) (mv n s) (tb T) := by
      rw [spec_l9Length.l0, if_pos a1, if_pos a2, rd_nat _ _ hl, hin.out, Option.bind_some, ihx, Option.bind_some, if_neg hnb, ei, ew]
      unfold cOf
      cases most with
      | true =>
        rw [if_pos rfl, if_pos rfl]
        by_cases h : 1 + v > b
        · rw [if_pos h, if_pos h]
        · rw [if_neg h, if_neg h]
      | false =>
        rw [if_neg Bool.false_ne_true, if_neg Bool.false_ne_true]
        by_cases h : 1 + v < b
        · rw [if_pos h, if_pos h]
        · rw [if_neg h, if_neg h]
    rw [h0, hnext _ a4 a5 hb9, hd, List.map_cons, List.foldl_cons, ← hv]
theorem l9Length_f (T : Int → Bool) (n : Nat) (hn : n ≤ 6) (hTop : T ((2 ^ n - 1 : Nat) : Int) = true) (most : Bool) (m : Nat) : ∀ (s k : Nat), m ≤ 100 → s < 64 → s < 2 ^ n → (mv n s).length ≤ m → 20 * m + 50 < k →
    spec_l9Length.f k (tb T) ((n : Nat) : Int) ((s : Nat) : Int) most = some (lenM T n (cOf most) m s) := by
  induction m with
  | zero =>
    intro s k hm1 hs hs2 hm hk
    obtain ⟨k, rfl⟩ : ∃ q, k = q + 1 := ⟨k - 1, by omega⟩
    have h0 : mv n s = [] := List.length_eq_zero_iff.1 (by omega)
    have h1 := g_all ⟨n, by omega⟩ ⟨s, hs⟩ hs2 h0
    simp only at h1
    have hT : T ((s : Nat) : Int) = true := by rw [h1]; exact hTop
    rw [spec_l9Length.f, if_pos (by omega), if_pos (by omega), rd_T T s hs, hT, if_pos rfl]
    rfl
  | succ m ih =>
    intro s k hm1 hs hs2 hm hk
    obtain ⟨k, rfl⟩ : ∃ q, k = q + 2 := ⟨k - 2, by omega⟩
    have hlen := mv_len n s
    have b1 : (0 : Int) ≤ ((s : Nat) : Int) := by omega
    have b2 : ((s : Nat) : Int) < 64 := by omega
    have b3 : 10 < k + 1 := by omega
    have b4 : m ≤ 100 := by omega
    have b5 : 20 * m + 50 < k := by omega
    have b6 : 20 * m + 50 + ((mv n s).length - 1) + 2 < k := by omega
    have hc := cOf_chooses most
    rw [spec_l9Length.f, if_pos b1, if_pos b2, rd_T T s hs, lenM]
    by_cases hT : T ((s : Nat) : Int) = true
    · rw [if_pos hT, if_pos hT]
    · rw [if_neg hT, if_neg hT, moves_f n s hn hs (k + 1) b3, Option.bind_some]
      have hne : 0 < (mv n s).length := by
        rcases Nat.eq_zero_or_pos (mv n s).length with h0 | h0
        · have h1 := g_all ⟨n, by omega⟩ ⟨s, hs⟩ hs2 (List.length_eq_zero_iff.1 h0)
          simp only at h1
          rw [h1] at hT
          exact absurd hTop hT
        · exact h0
      have b7 : 1 + ((mv n s).length - 1) = (mv n s).length := by omega
      have b8 : (0 : Int) < ((mv n s).length : Int) := by omega
      have hx : (mv n s)[0] ∈ mv n s := List.getElem_mem hne
      have hd : mv n s = (mv n s)[0] :: (mv n s).drop 1 := by simpa using List.drop_eq_getElem_cons hne
      have hin := mv_in n s hn hs _ hx
      have ihA : ∀ x ∈ mv n s, ∀ k, 20 * m + 50 < k → spec_l9Length.f k (tb T) ((n : Nat) : Int) ((nxN s x : Nat) : Int) most = some (lenM T n (cOf most) m (nxN s x)) := fun x hx k hk => by
        have hin := mv_in n s hn hs _ hx
        exact ih (nxN s x) k (by omega) hin.lt (hin.top hs2) (by have := hin.less; omega) hk
      have ihx := ihA _ hx k b5
      obtain ⟨v, hv⟩ : ∃ v, v = lenM T n (cOf most) m (nxN s (mv n s)[0]) := ⟨_, rfl⟩
      have hbd := lenM_bd T n (cOf most) hc m (nxN s (mv n s)[0])
      rw [← hv] at ihx hbd
      have ew := wone v m b4 hbd.1 hbd.2
      have hv1 : 0 ≤ 1 + v := Int.add_nonneg (by decide) hbd.1
      have h := l9Length_l0 T n hn most m s b4 hs (20 * m + 50) ihA ((mv n s).length - 1) k 1 (1 + v) b7 b6 hv1
      have hrd : rd (mv n s) 0 = (mv n s)[0] := rd_nat (mv n s) 0 hne
      have e1 : wrap64 ((0 : Int) + 1) = ((1 : Nat) : Int) := by decide +kernel
      have hneg : ((-1 : Int)) < 0 := by decide
      rw [spec_l9Length.l0, if_pos b8, if_pos (Int.le_refl 0), hrd, hin.out, Option.bind_some, ihx, Option.bind_some, if_pos hneg, ew, e1, h]
      congr 1
      conv => rhs; rw [hd]
      rw [hv]
      rfl
theorem mx_cOf (a b : Int) : mx a b = cOf true a b := by unfold mx cOf; rw [if_pos rfl]
theorem mn_cOf (a b : Int) : mn a b = cOf false a b := by unfold mn cOf; rw [if_neg Bool.false_ne_true]
end Go.Proofs.Ytbnhnmcbaacdiaa.Q
