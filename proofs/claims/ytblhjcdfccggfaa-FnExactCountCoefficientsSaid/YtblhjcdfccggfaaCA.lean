/- Words for the program's table of coefficients: a pointer to an array of rows that is filled row by row, and then held. Conditions stand in each theorem. -/
import Derived.Test.YtblhjcdfccggfaaHM
namespace Go.Proofs.YtblhjcdfccggfaaM
open Go.RowKit Go.Proofs.YtblhjcdfccggfaaW.PrintWords Go.Proofs.YtblhjcdfccggfaaW.PrintLast Go.Proofs.YtblhjcdfccggfaaW.PrintMore
set_option linter.unusedVariables false
set_option linter.unusedSimpArgs false
/-- the rows that stand -/
def its (e : TypeId) (rows : List (Value × List Int)) : List It := rows.map fun p => .row e p.1 (encs (Value.int .i64) p.2)
theorem its_get {e : TypeId} {rows : List (Value × List Int)} {j : Nat} (h : j < rows.length) : (its e rows)[j]? = some (.row e rows[j].1 (encs (Value.int .i64) rows[j].2)) := by simp [its, h]
/-- the array's cells: the rows that stand, then nil -/
def cellsOf (n : Nat) (rows : List (Value × List Int)) : Array Value := (rows.map Prod.fst ++ List.replicate (n - rows.length) (Value.slice none 0 0)).toArray
theorem cellsOf_size {n : Nat} {rows : List (Value × List Int)} (h : rows.length ≤ n) : (cellsOf n rows).size = n := by simp [cellsOf]; omega
theorem cellsOf_nil {n : Nat} {rows : List (Value × List Int)} (h : rows.length < n) : (cellsOf n rows)[rows.length]? = some (Value.slice none 0 0) := by
  simp only [cellsOf, List.getElem?_toArray]
  rw [List.getElem?_append_right (by simp)]
  simp only [List.length_map, Nat.sub_self, List.getElem?_replicate]
  rw [if_pos (by omega)]
theorem cellsOf_set {n : Nat} {rows : List (Value × List Int)} (h : rows.length < n) (v : Value) (l : List Int) : (cellsOf n rows).setIfInBounds rows.length v = cellsOf n (rows ++ [(v, l)]) := by
  obtain ⟨m, hm⟩ : ∃ m, n - rows.length = m + 1 := ⟨n - rows.length - 1, by omega⟩
  simp only [cellsOf, List.setIfInBounds_toArray, List.map_append, List.map_cons, List.map_nil, List.length_append, List.length_cons, List.length_nil]
  rw [hm, List.replicate_succ, show n - (rows.length + (0 + 1)) = m by omega]
  rw [List.set_append_right _ _ (by simp)]
  simp
theorem cellsOf_set2 {n : Nat} {rows : List (Value × List Int)} (h : rows.length < n) (v v' : Value) : ((cellsOf n rows).setIfInBounds rows.length v).setIfInBounds rows.length v' = (cellsOf n rows).setIfInBounds rows.length v' := by
  apply Array.ext_getElem?
  intro i
  simp only [Array.getElem?_setIfInBounds]
  split <;> simp_all
theorem cellsOf_get {n : Nat} {rows : List (Value × List Int)} {j : Nat} (h : j < rows.length) : (cellsOf n rows)[j]? = some rows[j].1 := by
  simp only [cellsOf, List.getElem?_toArray]
  rw [List.getElem?_append_left (by simpa using h)]
  simp [h]
theorem its_snoc {e : TypeId} {rows : List (Value × List Int)} {v : Value} {l : List Int} : its e (rows ++ [(v, l)]) = its e rows ++ [.row e v (encs (Value.int .i64) l)] := by simp [its]
theorem MS.rot {w W : World} {x b : It} {L : List It} (h : MS w W (x :: b :: L)) : MS w W (b :: (L ++ [x])) :=
  h.perm ((List.Perm.swap b x L).trans ((List.perm_append_comm (l₁ := [x]) (l₂ := L)).cons b))
theorem its_last {e : TypeId} {rows : List (Value × List Int)} {a b d x : It} {i : Nat} (h : i = 3 + rows.length) : (a :: b :: d :: (its e rows ++ [x]))[i]? = some x := by
  subst h
  rw [Nat.add_comm]
  simp [its]
theorem its_last1 {e : TypeId} {rows : List (Value × List Int)} {a x : It} : (a :: (its e rows ++ [x]))[1 + rows.length]? = some x := by
  rw [Nat.add_comm]
  simp [its]
theorem cellsOf_same {n : Nat} {rows : List (Value × List Int)} (h : rows.length < n) : (cellsOf n rows).setIfInBounds rows.length (Value.slice none 0 0) = cellsOf n rows := by
  apply Array.ext_getElem?
  intro i
  rw [Array.getElem?_setIfInBounds]
  split
  · rename_i hi
    subst hi
    rw [if_pos (by rw [cellsOf_size (by omega)]; exact h), cellsOf_nil h]
  · rfl
theorem cellsOf_at {n : Nat} {rows : List (Value × List Int)} (h : rows.length < n) (v : Value) : ((cellsOf n rows).setIfInBounds rows.length v)[rows.length]? = some v := by
  rw [Array.getElem?_setIfInBounds_self_of_lt (by rw [cellsOf_size (by omega)]; exact h)]
theorem MS.addNil {w W : World} {L : List It} (h : MS w W L) (e : TypeId) : MS w W (.row e (.slice none 0 0) (encs (Value.int .i64) []) :: L) :=
  h.add (Below.refl _ _) _ ⟨by simp [encs], .inl ⟨rfl, rfl⟩⟩ (fun k hk => by cases hk)
/-- The row that was filled stands with the others. -/
theorem MS.stand {w W : World} {n g : Nat} {T e : TypeId} {rows : List (Value × List Int)} {v : Value} {l : List Int} {x y : It} (h : MS w W (.row e v (encs (Value.int .i64) l) :: x :: .box g T ((cellsOf n rows).setIfInBounds rows.length v) :: (its e rows ++ [y]))) (hn : rows.length < n) :
    MS w W (.box g T (cellsOf n (rows ++ [(v, l)])) :: (its e (rows ++ [(v, l)]) ++ [y])) := by
  rw [cellsOf_set hn v l] at h
  have h2 := (h.drop 1)
  have h3 : MS w W (.row e v (encs (Value.int .i64) l) :: .box g T (cellsOf n (rows ++ [(v, l)])) :: (its e rows ++ [y])) := h2
  rw [its_snoc]
  refine h3.perm ?_
  refine (List.Perm.swap _ _ _).trans (List.Perm.cons _ ?_)
  rw [List.append_assoc]
  exact (List.perm_middle (l₁ := its e rows) (l₂ := [y])).symm.trans (by rw [List.singleton_append])
/-- The array is full: from now on it is only read. -/
theorem MS.toF {w W : World} {g n : Nat} {T e : TypeId} {rows : List (Value × List Int)} {R : List It} (h : MS w W (.box g T (cellsOf n rows) :: (its e rows ++ R))) (hn : rows.length = n) (hm : n ≤ 1000) :
    ∃ own : Nat → Prop, Kd.F (Kd.slice e (Kd.int .i64)) W own (some ⟨g, 0, none⟩) n (rows.map Prod.snd) ∧ MS w W (.any own (Agree own W) :: R) := by
  have hrow : ∀ j (hj : j < rows.length), W.ownsRow w.heap.size e 1 rows[j].1 (encs (Value.int .i64) rows[j].2).length (encs (Value.int .i64) rows[j].2) := by
    intro j hj
    refine h.row (j + 1) ?_
    rw [List.getElem?_cons_succ, List.getElem?_append_left (by simpa [its] using hj)]
    exact its_get hj
  have hb := h.box 0 rfl
  refine ⟨fun k => k = g ∨ ∃ p, p ∈ rows ∧ p.1.ownBlock = some k, ?_, ?_⟩
  · intro W' hW
    have hg : W'.heap[g]? = some (.cells (cellsOf n rows) T (0, 0)) := (hW g (.inl rfl) (blk_lt hb)).trans hb
    refine ⟨by simpa using hn, by first | omega | (unfold maxLen; omega), fun _ => ⟨⟨g, 0, none⟩, rfl, fun j p hj => ?_⟩⟩
    rw [List.getElem?_map] at hj
    have hjl : j < rows.length := by
      rcases Nat.lt_or_ge j rows.length with h1 | h1
      · exact h1
      · rw [List.getElem?_eq_none h1] at hj; cases hj
    rw [List.getElem?_eq_getElem hjl] at hj
    injection hj with hj
    subst hj
    have ho := hrow j hjl
    have ho' : W'.ownsRow w.heap.size e 1 rows[j].1 (encs (Value.int .i64) rows[j].2).length (encs (Value.int .i64) rows[j].2) := own_move ho fun k hk => hW k (.inr ⟨rows[j], List.getElem_mem hjl, hk⟩) (own_lt ho k hk)
    rw [encs_length] at ho'
    obtain ⟨A, c, hv, hl, hC⟩ := Kd.R_reads (Kd.R_of_own (h1 := fun _ => rfl) (ok := fun _ => True) ho' (fun _ _ => trivial))
    refine ⟨[rows[j].1], rfl, ⟨A, c, by rw [hv], hl, hC⟩, fun i u hu => ?_⟩
    cases i with
    | zero =>
      have : rows[j].1 = u := by simpa using hu
      subst this
      have hc := (blk_cell hg j).trans (cellsOf_get hjl)
      rw [add_plain]
      show W'.cell? ⟨g, j * 1 + 0, none⟩ = _
      rw [Nat.mul_one, Nat.add_zero]
      exact hc
    | succ i => simp at hu
  · have hap := List.pairwise_cons.1 h.apart
    have hap2 := List.pairwise_append.1 hap.2
    refine ⟨h.below, ?_, ?_⟩
    · intro x hx
      rcases List.mem_cons.1 hx with rfl | hx
      · refine ⟨?_, fun W2 h2 => h2⟩
        rintro k (rfl | ⟨p, hp, hk⟩)
        · exact ⟨h.boxGe 0 rfl, blk_lt hb⟩
        · obtain ⟨j, hj, rfl⟩ := List.mem_iff_getElem.1 hp
          exact ⟨own_base (hrow j hj) k hk, own_lt (hrow j hj) k hk⟩
      · exact h.ok x (List.mem_cons_of_mem _ (List.mem_append_right _ hx))
    · refine List.pairwise_cons.2 ⟨fun y hy k hk => ?_, hap2.2.1⟩
      rcases hk with rfl | ⟨p, hp, hk⟩
      · exact hap.1 y (List.mem_append_right _ hy) k rfl
      · exact hap2.2.2 _ (List.mem_map_of_mem hp) y hy k hk
end Go.Proofs.YtblhjcdfccggfaaM
